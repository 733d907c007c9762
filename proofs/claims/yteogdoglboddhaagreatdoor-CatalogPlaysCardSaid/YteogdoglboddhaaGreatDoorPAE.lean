/-
  polestarref01: short, half, even. polestarref01: fitting. polestarref01: divide. ratio: Small, One, Nought, Sign, Check. ratio: Check. ratio: Checks, Long, Answer. frac: answered, Make, Of. frac: always, do, Mul, Sub. frac: Mul, Sub. frac: Make, Of; the law's whole. law01: SameInt. law01: TwinInt, LeftInt. law01: LeftInt. law01: TwinInt, once more: the twin's row and all that is known of it. As Free (an operation of the front may look at a slot that the tail writes). A row's load under a guard that wants it. No program. A load of a part of a row, by a law: no program. ratio.Copy once more, its two rows apart; a part in memory of its own (catalog.copied): printed by tools/gen_copy.py. A store into a part of a row, by a law; a load of a part where blocks lie apart (Aloof): no program. Parts as data; a part in rows of its own: catalog.copied: printed by tools/gen_copied.py.
-/
import Derived.Test.YteogdoglboddhaaGreatDoorPAD
import Derived.Test.YteogdoglboddhaaGreatDoorPAB
import Derived.Laws.AppendOwnNone
import Derived.Test.YteogdoglboddhaaGreatDoorPAC
import Derived.Test.YteogdoglboddhaaGreatDoorPAA
set_option maxHeartbeats 6400000
namespace Go.Proofs.YteogdoglboddhaaGreatDoor
set_option maxRecDepth 100000
open Go Go.RowKit Go.Proofs
def Rh (l:List Nat)(d:Nat)(q:List Nat)(k r:Nat):Prop:=q.length=l.length∧OkL q∧r<d∧val (l.drop k)=val (q.drop k)*d+r
theorem Tp (l:List Nat){d:Nat}(hd:0<d):Rh l d (List.replicate l.length 0) l.length 0:=
 ⟨by simp,(fun x hx=>by rw [List.eq_of_mem_replicate hx];omega),hd,by simp [val]⟩
theorem Vo {l q:List Nat}{d k r:Nat}(h:Rh l d q (k+1) r)(hk:k<l.length)(okl:OkL l)(hd:d<4294967296) :
  Rh l d (q.set k ((r*4294967296+l.getD k 0)/d)) k ((r*4294967296+l.getD k 0)%d):=by
 obtain ⟨h1,h2,h3,h5⟩:=h;have hl:=Ag okl k;refine ⟨by simpa using h1,Ce h2 ?_,Nat.mod_lt _ (by omega),?_⟩
 ·exact Nat.div_lt_of_lt_mul (by have:=Nat.mul_le_mul_right 4294967296 (show r+1≤d from h3);omega)
 ·rw [Bv l k hk,h5,Bv _ k (by simp;omega)]
  have e:=Nat.div_add_mod (r*4294967296+l.getD k 0) d;have e2:(q.set k ((r*4294967296+l.getD k 0)/d)).getD k 0=(r*4294967296+l.getD k 0)/d:=by simp [show k<q.length by omega]
  have e3:(q.set k ((r*4294967296+l.getD k 0)/d)).drop (k+1)=q.drop (k+1):=by rw [List.drop_set_of_lt (by omega)]
  rw [e2,e3];generalize (r*4294967296+l.getD k 0)/d=x at *;generalize (r*4294967296+l.getD k 0)%d=y at *;generalize val (q.drop (k+1))=v at *;rw [Nat.add_mul,Nat.mul_add,Nat.mul_assoc 4294967296 v d,Nat.mul_comm x d];omega
theorem Oy {l q:List Nat}{d r:Nat}(h:Rh l d q 0 r):val q=val l/d∧r=val l%d:=by
 obtain ⟨h1,h2,h3,h5⟩:=h;simp only [List.drop_zero] at h5;have hd:0<d:=by omega
 constructor
 ·rw [h5,Nat.add_comm,Nat.add_mul_div_right _ _ hd,Nat.div_eq_of_lt h3,Nat.zero_add]
 ·rw [h5,Nat.add_comm,Nat.add_mul_mod_self_right,Nat.mod_eq_of_lt h3]
theorem Pg (a:Option Addr)(c:Nat)(l:List Nat)(d:Nat)(w:World)(hl:l.length≤2147483648)(okl:OkL l)(hd:0<d)(hd2:d<4294967296)(h:Row w a (limV l)) :
  Calls Tryz.prog 228 #[.slice a l.length c,.int .u32 d] w fun e w'=>∃ v,e=.returned (.tuple #[v,.int .u32 ((val l%d:Nat):Int)])∧MagO w' w.heap.size v (lim (val l/d))∧Ext w w':=by
 obtain ⟨b,off,ha,hc⟩:=h;replace ha:=mK ha;replace hc:=mK hc;have hmk:=fun w=>make32 l.length w (by omega);have hst:=mK (Tp l hd);have hdz:((d:Int)==0)=false:=by rw [beq_eq_false_iff_ne];omega
 obtain ⟨D,hD⟩:=nmE ((d:Int):Int);go_enter Tryz.func228,Tryz.ntmps228;go_wp2_with fail;go_loopw [7,8,9] (fun s i _ wr=>∃ k r q,k≤l.length∧i=.int .i64 ((k:Int)-1)∧s=.int .u64 (r:Nat)∧Blk wr w.heap.size q∧Rh l d q k r∧Ext w wr) (fun _ i _ _=>(intOf i+1).toNat)
 case atStart=>exact ⟨l.length,0,_,nR _,rfl,rfl,Uz _ _,hst.out,(xR w).al _⟩
 case round=>
  obtain ⟨k,r,q,hk,rfl,rfl,hB,hsh,he⟩:=hrel;cases k with
  | zero=>
   obtain ⟨e1,e2⟩:=Oy hsh;have hown:=hB.own (by have:=hsh.1;omega);obtain ⟨aa,cc,he0,hle,hrow⟩:=hown.r;simp only [Value.slice.injEq] at he0;obtain ⟨rfl,-,rfl⟩:=he0;have hres:=hown.lim hsh.2.1;have hcall:=fun w' (e:Row w' (some ⟨w.heap.size,0,none⟩) (limV q))=>Fv (some ⟨w.heap.size,0,none⟩) q q.length w' hsh.2.1 (by have:=hsh.1;omega) hle e;rw [e1] at hres hcall;rw [hsh.1] at hcall hres;have hr2:=hsh.2.2.1

   replace hcall:=mK hcall;replace hres:=mK hres;replace hrow:=mK hrow;replace hsh:=mK hsh;replace he:=mK he;replace e1:=mK e1;replace e2:=mK e2;clear hown hB;go_wp2_with fail;refine (hcall.out _ hrow.out).mono ?_;rintro e w' ⟨rfl,rfl⟩;go_wp2_with fail;go_ret2;exact ⟨.slice (some ⟨w.heap.size,0,none⟩) (lim (val l/d)).length l.length,by rw [←e2.out];rfl,hres.out,he.out⟩
  | succ k=>
   rw [show (((k+1:Nat)):Int)-1=(k:Int) by omega];have h1:=he.cell (Bx hc.out (show k<l.length by omega));have hA:=ha.out (At (show k<l.length by omega));rw [hA];have hx:=Ag okl k;have hq1:=hsh.1;have hr:=hsh.2.2.1;have hfr:=hB.frozen k;have hold:=hB.cell (k:=k) (by omega);have hnext:=Vo hsh (by omega) okl hd2;obtain ⟨x,hxe⟩:=nmE (l.getD k 0);rw [←hxe] at h1 hx hnext;have hb:(r:Int)*4294967296+x≤18446744073709551615:=by omega
   have hb0:(r:Int)*4294967296≤18446744073709551615:=by omega
   have hQ:(r*4294967296+x)/d<4294967296:=Nat.div_lt_of_lt_mul (by have:=Nat.mul_le_mul_right 4294967296 (show r+1≤d from hr);omega);have hset:=hB.set k ((r*4294967296+x)/d);have hes:=he.st (p:=⟨w.heap.size,k,none⟩) (nR _) (.int .u32 (((r*4294967296+x)/d:Nat):Int))
   have hQD:(((r*4294967296+x)/d:Nat):Int)=((r:Int)*4294967296+x)/d%4294967296:=by
    have e:((r:Int)*4294967296+x)/d=(((r*4294967296+x)/d:Nat):Int):=by simp
    rw [e];generalize (r*4294967296+x)/d=Qn at hQ;omega
   have hRD:(((r*4294967296+x)%d:Nat):Int)=((r:Int)*4294967296+x)%d:=by simp
   rw [hQD] at hset hes;clear hQ;replace hQD:=mK hQD;replace hRD:=mK hRD;replace hA:=mK hA;replace hnext:=mK hnext;replace hsh:=mK hsh;replace hset:=mK hset;replace hes:=mK hes;replace he:=mK he;replace hB:=mK hB;replace hxe:=mK hxe;go_wp2_with fail;go_roundw
   case rel=>exact ⟨k,_,_,by omega,rfl,by rw [←hRD.out],hset.out,hnext.out,hes.out⟩
   case measure=>simp [intOf]<;>omega
theorem Ahe (a:Option Addr)(c:Nat)(l:List Nat)(w:World)(hl:l.length≤2147483648)(okl:OkL l)(h:Row w a (limV l)) :
  Calls Tryz.prog 252 #[.slice a l.length c] w fun e w'=>∃ v,e=.returned v∧MagO w' w.heap.size v (lim (val l/2))∧Ext w w':=by
 have hs:=mK (Pg a c l 2 w hl okl (by omega) (by omega) h);go_enter Tryz.func252,Tryz.ntmps252;go_wp2_with fail;refine hs.out.mono ?_;rintro e w' ⟨v,rfl,h1,h2⟩;replace h1:=mK h1;replace h2:=mK h2;go_wp2_with fail;go_ret;exact ⟨v,rfl,h1.out,h2.out⟩
theorem Ad4 {x:Nat}{l:List Nat}:val (x::l)%2=x%2:=by
 simp only [val];omega
theorem Ahh (a:Option Addr)(c:Nat)(l:List Nat)(w:World)(hne:l≠[])(okl:OkL l)(hl:l.length≤2147483648)(h:Row w a (limV l)) :
  Calls Tryz.prog 251 #[.slice a l.length c] w fun e w'=>e=.returned (.bool (decide (val l%2=0)))∧w=w':=by
 cases l with
 | nil=>exact absurd rfl hne
 | cons x l=>
  obtain ⟨b,off,ha,hc⟩:=h;have hA:=ha (At (show 0<(x::l).length by simp));have hcell:=Bx hc (show 0<(x::l).length by simp);have hx:=(okL_cons.1 okl).1;simp only [List.getD_cons_zero,Nat.add_zero] at hcell;subst hA;rw [Ad4]
  have hb:(((x:Int)%2)==0)=decide (x%2=0):=by
   rw [Bool.eq_iff_iff];simp;omega
  clear ha hc okl hne;simp only [List.length_cons] at hl ⊢;go_enter Tryz.func251,Tryz.ntmps251;go_wp2_with fail;go_ret;exact ⟨rfl,rfl⟩
theorem Ajl {X R:Nat}:(((X:Int)-R).sign≤0)↔X≤R:=by
 rcases Nat.lt_trichotomy X R with h|h|h
 ·rw [Oz h];omega
 ·rw [Pb h];omega
 ·rw [Pa h];omega
theorem Eh {X R:Nat}:-1≤((X:Int)-R).sign∧((X:Int)-R).sign≤1:=by
 rcases Nat.lt_trichotomy X R with h|h|h
 ·rw [Oz h];omega
 ·rw [Pb h];omega
 ·rw [Pa h];omega
theorem Uf {D m:Nat}(hm:m<4294967296):(lim (D*m)).length≤(lim D).length+1:=by
 have:=On D m;have:=Zo hm;omega
theorem Za (a a':Option Addr)(c c':Nat)(R D:Nat)(w:World)(hl:(lim R).length≤1073741824)(hm:(lim D).length≤1073741824)(hD:0<D)(hR:R<D*4294967296)
  (h:Row w a (limV (lim R))) (h':Row w a' (limV (lim D))) :
  Calls Tryz.prog 279 #[.slice a (lim R).length c,.slice a' (lim D).length c'] w fun e w'=>e=.returned (.int .u32 ((R/D:Nat):Int))∧Ext w w':=by
 have hlt:R/D<4294967296:=Nat.div_lt_of_lt_mul hR;have HT:=mK (fun W (e:Ext w W) (m:Nat) (hm2:m<4294967296)=>Pf a' c' (lim D) m W hm (Ap D) hm2 (h'.ext e));have HC:=mK (fun W (e:Ext w W) (X:Nat) a2 c2 (hx:(lim X).length≤4294967296) (r:Row W a2 (limV (lim X)))=>Po a2 a c2 c X R W hx (by omega) r (h.ext e));have HS:=mK (fun m (hm2:m<4294967296)=>Uf (D:=D) hm2);replace hR:=mK hR;clear h h';replace hD:=mK hD;replace hlt:=mK hlt;obtain ⟨nr,hnr⟩:=nmE ((lim R).length);obtain ⟨nd,hnd⟩:=nmE ((lim D).length);rw [←hnr] at hl HC ⊢;rw [←hnd] at hm HT HS ⊢;clear hnr hnd;go_enter Tryz.func279,Tryz.ntmps279;go_wp2_with fail;go_loopw [5,6,7] (fun s i _ wr=>∃ lo hi:Nat,s=.int .u64 (lo:Nat)∧i=.int .u64 (hi:Nat)∧lo≤hi∧hi≤4294967295∧D*lo≤R∧R<D*(hi+1)∧Ext w wr) (fun s i _ _=>(intOf i-intOf s).toNat)
 case atStart=>exact ⟨0,4294967295,rfl,rfl,by omega,by omega,by omega,hR.out,xR _⟩
 case round=>
  obtain ⟨lo,hi,rfl,rfl,h1,h2,h3,h4,he⟩:=hrel;replace h3:=mK h3;replace h4:=mK h4;by_cases hlh:lo<hi
  ·obtain ⟨m,hm0⟩:=nmE ((lo+hi+1)/2)
   have hm1:((lo:Int)+hi+1)/2=(m:Int):=by omega
   have hm2:lo<m∧m≤hi:=by omega
   obtain ⟨hm3,hm4⟩:=hm2;have hmm:(m:Int)%4294967296=m:=by omega
   have ht:=mK (HT.out wr he m (by omega));have hs:=HS.out m (by omega);replace hm0:=mK hm0;replace he:=mK he;go_wp2_with fail;refine ht.out.mono ?_;rintro e w1 ⟨v,rfl,hv,he1⟩;rw [Aj] at hv;obtain ⟨aa,cc,rfl,hle,hrow⟩:=hv.r;have hc:=mK (HC.out w1 (he.out.trans he1) (D*m) aa cc (by omega) hrow);replace he:=mK (he.out.trans he1);clear hv hrow he1 ht;go_wp2_with fail;refine hc.out.mono ?_;rintro e w2 ⟨rfl,he2⟩;replace he:=mK (he.out.trans he2);clear he2 hc;have hcl:=Ajl (X:=D*m) (R:=R);have hcb:=Eh (X:=D*m) (R:=R);generalize (((D*m:Nat):Int)-(R:Int)).sign=S at *;replace hcl:=mK hcl;by_cases hS:S≤0
   ·have h3':=mK (hcl.out.1 hS)
    go_wp2_with fail;go_roundw
    case rel=>exact ⟨m,hi,rfl,rfl,by omega,by omega,h3'.out,h4.out,he.out⟩
    case measure=>simp [intOf]<;>omega
   ·have h4':R<D*((m-1)+1):=by
     have:¬D*m≤R:=fun h=>hS (hcl.out.2 h);rw [show m-1+1=m by omega];omega
    replace h4':=mK h4';go_wp2_with fail;go_roundw
    case rel=>exact ⟨lo,m-1,rfl,by congr 1;omega,by omega,by omega,h3.out,h4'.out,he.out⟩
    case measure=>simp [intOf]<;>omega
  ·obtain rfl:lo=hi:=by omega
   have hq:R/D=lo:=by
    have h3:=h3.out;have h4:=h4.out;rw [Nat.mul_comm] at h3 h4;exact Nat.div_eq_of_lt_le h3 h4
   replace hq:=mK hq;replace he:=mK he;have hmm:(lo:Int)%4294967296=lo:=by omega
   go_wp2_with fail;go_ret;exact ⟨Fa (by rw [hq.out]),he.out⟩
theorem Fl {P:Program}{w:World}{ops:Array Oper}{rest:List Oper}{o:Oper}{a:Act}{Q:Exit→Act→World→Prop}(hgd:o.guard=none)(s x:Operand)(t:TypeId)
  (ho:o.op=.call { callee:=.builtin .append,args:=#[s,x],argTypes:=#[t,t] })
  (base:Nat) (e:TypeId) (i:TypeInfo) (z:Value) (bytes:Nat) (ht:P.underlying t=some (.slice e)) (hi:P.info? e=some i) (hz:i.zero=some z)
  (hsize:i.size=1) (hby:i.bytes=bytes) (hzs:z.cells.size=1)
  (v:Value) (n:Nat) (xs:List Value) (hs:a.eval s=v) (hown:w.ownsRow base e 1 v n xs)
  (news:List Value) (hx:(a.eval x=.slice none 0 0∧news=[])∨∃ ad c,a.eval x=.slice (some ad) news.length c∧∀ j u,news[j]? = some u→w.cell? (ad.add j)=some u) (h1:∀ u∈news,u.oneCell'=true)
  (h63:n+news.length≤maxLen) (hbytes:(n+news.length)*bytes≤140737488355328) (hbase:base≤w.heap.size)
  (h:∀ v' w',w'.ownsRow base e 1 v' (n+news.length) (xs++news)→w.grownBy w' v.ownBlock→wpList P ops Q rest (a.put o.dst v') w'):wpList P ops Q (o::rest) a w:=by
 rcases hx with ⟨hx,rfl⟩|⟨ad,c,hx,hn⟩
 ·refine wpList_append_own_none hgd s x t ho base e i 1 ht hi v n xs hs hown hx (h v w ?_ (World.grownBy.refl _ _))
  simpa using hown
 ·exact wpList_append_own _ hgd s x t ho base e i z 1 bytes ht hi hz hsize hby hzs (by decide) v n xs hs hown ad news.length c news hx (by simp) hn h1 h63 hbytes hbase fun v' w' h2 h3 _=>h v' w' h2 h3
def RestR (w:World)(v:Value)(n:Nat):Prop:=(v=.slice none 0 0∧n=0)∨∃ b off c,v=.slice (some ⟨b,off,none⟩) (lim n).length c∧(lim n).length≤c∧∀ j,j<(limV (lim n)).length→w.cell? ⟨b,off+j,none⟩=some ((limV (lim n)).getD j undef)
theorem RestR.ext {w w':World}{v:Value}{n:Nat}(h:RestR w v n)(e:Ext w w'):RestR w' v n:=by
 rcases h with h|⟨b,off,c,h1,h2,h3⟩
 ·exact .inl h
 ·exact .inr ⟨b,off,c,h1,h2,fun j hj=>e.cell (h3 j hj)⟩
theorem RestR.r {w:World}{v:Value}{n:Nat}(h:RestR w v n):∃ a c,v=.slice a (lim n).length c∧(lim n).length≤c∧Row w a (limV (lim n)):=by
 rcases h with ⟨rfl,rfl⟩|⟨b,off,c,h1,h2,h3⟩
 ·rw [Al]
  exact ⟨none,0,rfl,nR _,Hf w⟩
 ·exact ⟨_,c,h1,h2,b,off,fun _=>rfl,h3⟩
theorem RestR.of {w:World}{base:Nat}{v:Value}{n:Nat}(h:MagO w base v (lim n)):RestR w v n:=by
 obtain ⟨a,c,h1,h2,b,off,h3,h4⟩:=h.r;obtain ⟨h5,h6⟩:=h;rcases h6 with ⟨rfl,h6⟩|⟨g,cap,cur,rfl,h7⟩
 ·refine .inl ⟨rfl,?_⟩
  have:=Aj n;rw [List.eq_nil_of_length_eq_zero h6] at this;exact this.symm
 ·simp only [Value.slice.injEq] at h1
  obtain ⟨rfl,-,rfl⟩:=h1;by_cases hne:limV (lim n)=[]
  ·refine .inr ⟨g,0,_,rfl,h2,fun j hj=>?_⟩
   rw [hne] at hj;simp at hj
  ·have:=h3 hne
   simp only [Option.some.injEq,Addr.mk.injEq] at this;obtain ⟨rfl,rfl,-⟩:=this;exact .inr ⟨_,_,_,rfl,h2,h4⟩
def AppX (w:World)(v:Value)(news:List Value):Prop:=(v=.slice none 0 0∧news=[])∨∃ ad c,v=.slice (some ad) news.length c∧∀ j u,news[j]? = some u→w.cell? (ad.add j)=some u
theorem AppX.ext {w w':World}{v:Value}{news:List Value}(h:AppX w v news)(e:Ext w w'):AppX w' v news:=by
 rcases h with h|⟨ad,c,h1,h2⟩
 ·exact .inl h
 ·exact .inr ⟨ad,c,h1,fun j u hu=>e.cell (h2 j u hu)⟩
theorem RestR.app {w:World}{v:Value}{n:Nat}(h:RestR w v n):AppX w v (limV (lim n)):=by
 rcases h with ⟨rfl,rfl⟩|⟨b,off,c,h1,h2,h3⟩
 ·exact .inl ⟨rfl,by rw [Al];rfl⟩
 ·exact .inr ⟨_,c,by rw [h1,Ah],In h3⟩
def DivJ (l:List Nat)(D:Nat)(q:List Nat)(k r:Nat):Prop:=q.length=l.length∧OkL q∧r<D∧(∀ j,j<k→q.getD j 0=0)∧val (l.drop k)=val (q.drop k)*D+r
theorem Aam (l:List Nat){D:Nat}(hD:0<D):DivJ l D (List.replicate l.length 0) l.length 0:=
 ⟨by simp,(fun x hx=>by rw [List.eq_of_mem_replicate hx];omega),hD,(fun j hj=>by simp [hj]),by simp [val]⟩
theorem Ado {l q:List Nat}{D k r:Nat}(h:DivJ l D q (k+1) r)(hk:k<l.length)(okl:OkL l) :
  DivJ l D (q.set k ((l.getD k 0+4294967296*r)/D)) k ((l.getD k 0+4294967296*r)%D):=by
 obtain ⟨h1,h2,h3,h4,h5⟩:=h;have hl:=Ag okl k;refine ⟨by simpa using h1,Ce h2 ?_,Nat.mod_lt _ (by omega),fun j hj=>?_,?_⟩
 ·exact Nat.div_lt_of_lt_mul (by have:=Nat.mul_le_mul_right 4294967296 (show r+1≤D from h3);omega)
 ·have:=h4 j (by omega)
  rw [List.getD_eq_getElem?_getD] at this ⊢;rw [List.getElem?_set_ne (by omega)];exact this
 ·rw [Bv l k hk,h5,Bv _ k (by simp;omega)]
  have e:=Nat.div_add_mod (l.getD k 0+4294967296*r) D;have e2:(q.set k ((l.getD k 0+4294967296*r)/D)).getD k 0=(l.getD k 0+4294967296*r)/D:=by simp [show k<q.length by omega]
  have e3:(q.set k ((l.getD k 0+4294967296*r)/D)).drop (k+1)=q.drop (k+1):=by rw [List.drop_set_of_lt (by omega)]
  rw [e2,e3];generalize (l.getD k 0+4294967296*r)/D=x at *;generalize (l.getD k 0+4294967296*r)%D=y at *;generalize val (q.drop (k+1))=v at *;rw [Nat.add_mul,Nat.mul_add,Nat.mul_assoc 4294967296 v D,Nat.mul_comm x D];omega
theorem Adp {l q:List Nat}{D k r n:Nat}(h:DivJ l D q (k+1) r)(hk:k<l.length)(hn:n=0):q.set k n=q:=by
 subst hn;have h0:=h.2.2.2.1 k (by omega);have h1:=h.1;apply List.ext_getElem?
 intro j;rw [List.getElem?_set];split
 ·rename_i e
  subst e;rw [List.getD_eq_getElem?_getD] at h0;rw [if_pos (by omega)];rw [List.getElem?_eq_getElem (by omega)] at h0 ⊢;simp at h0;rw [h0]
 ·rfl
theorem Af7 {l q:List Nat}{D r:Nat}(h:DivJ l D q 0 r):val q=val l/D∧r=val l%D:=by
 obtain ⟨h1,h2,h3,h4,h5⟩:=h;exact Oy ⟨h1,h2,h3,h5⟩
theorem Rt (a a':Option Addr)(c c':Nat)(A D:Nat)(w:World)(hl:(lim A).length≤1073741824)(hD0:0<D)(hD:D<4294967296)
  (h:Row w a (limV (lim A))) (h':Row w a' (limV (lim D))) :
  Calls Tryz.prog 256 #[.slice a (lim A).length c,.slice a' (lim D).length c'] w fun e w'=>∃ v1 v2,e=.returned (.tuple #[v1,v2])∧RestR w' v1 (A/D)∧RestR w' v2 (A%D)∧Ext w w'∧NewV w.heap.size v1:=by
 rw [Iu (by omega) hD] at h' ⊢;obtain ⟨b,off,ha,hc⟩:=h';have hA:=ha (At (show 0<[D].length by simp));have hcell:=Bx hc (show 0<[D].length by simp);simp only [List.getD_cons_zero,Nat.add_zero] at hcell;subst hA;have hs:=Pg a c (lim A) D w (by omega) (Ap A) hD0 hD h;rw [Aj] at hs;replace hs:=mK hs;have hr32:A%D<4294967296:=Nat.lt_trans (Nat.mod_lt _ hD0) hD;simp only [List.length_singleton];generalize (lim A).length=n at *;clear ha hc h;go_enter Tryz.func256,Tryz.ntmps256;go_wp2_with fail;refine hs.out.mono ?_;rintro e w1 ⟨v,rfl,hv,he⟩;have hr:=Abb w1 136 (A%D);have okn:OkL [A%D]:=fun x hx=>by simp at hx;omega
 have htr:=Fv (some ⟨w1.heap.size,0,none⟩) [A%D] 1 _ okn (by simp) (by simp) hr;have hr2:=hr.lim okn;have hle:=Cs okn;rw [Tn] at htr hr2 hle;simp only [List.length_singleton] at hle;replace htr:=mK htr;replace hv:=mK hv;replace he:=mK he;replace hr2:=mK hr2;obtain ⟨R,hR⟩:=nmE (A%D);simp only [List.length_singleton] at htr;rw [←hR] at htr hr2 hle hr32 ⊢;clear hr okn hs;replace hR:=mK hR;go_wp2_with fail;refine htr.out.mono ?_;rintro e w' ⟨rfl,rfl⟩;go_wp2_with fail;go_ret2;obtain ⟨b2,off2,h2,h3⟩:=hr2.out;rw [←hR.out];refine ⟨_,_,rfl,(RestR.of hv.out).ext ((xR _).al _),?_,he.out.al _,hv.out.newV⟩;by_cases h0:R=0
 ·subst h0
  refine .inr ⟨w1.heap.size,0,1,rfl,hle,fun j hj=>?_⟩;rw [Al] at hj;simp [limV] at hj
 ·have hne:limV (lim R)≠[]:=by
   rw [Az h0];simp [limV]
  have:=h2 hne;simp only [Option.some.injEq,Addr.mk.injEq] at this;obtain ⟨rfl,rfl,-⟩:=this;exact .inr ⟨_,_,1,rfl,hle,h3⟩
theorem Aef (v:Value)(x:Rat)(w:World)(hX:nf x≤268435456)(h:FracR w v x) :
  Calls Tryz.prog 249 #[v] w fun e w'=>e=.returned (.int .i64 x.num.sign)∧Ext w w':=by
 have H:=mK h;obtain ⟨x1,x2,x3,x4,y1,y2,y3,y4,rfl⟩:=h.shape;have hn:nl x.num≤1073741824:=nT (Nat.le_max_left _ _) (nT hX (by decide));have hs:=mK (fun w h=>Mb (.agg #[.bool x1,.slice x2 x3 x4]) x.num w h hn);clear h;go_enter Tryz.func249,Tryz.ntmps249;go_wp2_with fail;refine (hs.out _ (H.out.ext ((xR w).al _)).num).mono ?_;rintro e w' ⟨rfl,hE⟩;have FE:=mK (((xR w).al _).trans hE);clear hE;go_wp2_with fail;go_ret;exact ⟨rfl,FE.out⟩
def AnyL (w:World)(v:Value)(b1:Bool)(l1:List Nat)(b2:Bool)(l2:List Nat):Prop:=
 ∃ a1 c1 a2 c2,v=.agg #[.bool b1,.slice a1 l1.length c1,.bool b2,.slice a2 l2.length c2]∧l1.length≤4294967296∧l2.length≤4294967296∧AnyR w (.agg #[.bool b1,.slice a1 l1.length c1]) b1 l1∧AnyR w (.agg #[.bool b2,.slice a2 l2.length c2]) b2 l2
def okF (b1:Bool)(l1:List Nat)(b2:Bool)(l2:List Nat):Bool:=
 Cg b1 l1&&Cg b2 l2&&decide (0<sg b2 (val l2))&&decide (Int.gcd (sg b1 (val l1)) (sg b2 (val l2))=1)
def ratF (b1:Bool)(l1:List Nat)(b2:Bool)(l2:List Nat):Option Rat:=
 if okF b1 l1 b2 l2 then some (Rat.divInt (sg b1 (val l1)) (sg b2 (val l2))) else none
def AnyF (w:World)(v:Value)(o:Option Rat):Prop:=∃ b1 l1 b2 l2,AnyL w v b1 l1 b2 l2∧o=ratF b1 l1 b2 l2
theorem AnyF.ext {w w':World}{v:Value}{o:Option Rat}(h:AnyF w v o)(e:Ext w w'):AnyF w' v o:=by
 obtain ⟨b1,l1,b2,l2,⟨a1,c1,a2,c2,h1,h2,h3,h4,h5⟩,h6⟩:=h;exact ⟨b1,l1,b2,l2,⟨a1,c1,a2,c2,h1,h2,h3,h4.ext e,h5.ext e⟩,h6⟩
theorem Ac7 {n d:Int}(hd:0<d)(hg:Int.gcd n d=1):(Rat.divInt n d).num=n∧((Rat.divInt n d).den:Int)=d:=by
 rw [Ok,Ol n d (by omega),hg];simp;omega
theorem AnyF.frac {w:World}{v:Value}{x:Rat}(h:AnyF w v (some x)):FracR w v x∧nf x≤2048:=by
 obtain ⟨b1,l1,b2,l2,⟨a1,c1,a2,c2,rfl,h2,h3,h4,h5⟩,h6⟩:=h;unfold ratF at h6;split at h6
 ·rename_i ho
  unfold okF at ho;simp only [Bool.and_eq_true,decide_eq_true_eq] at ho;obtain ⟨⟨⟨o1,o2⟩,o3⟩,o4⟩:=ho;simp only [Option.some.injEq] at h6;obtain ⟨e1,e2⟩:=Ac7 o3 o4;rw [←h6] at e1 e2;obtain ⟨i1,i2⟩:=Iy h4 o1;obtain ⟨j1,j2⟩:=Iy h5 o2;refine ⟨⟨_,_,_,_,_,_,_,_,rfl,by rw [e1];exact i1,by rw [e2];exact j1⟩,?_⟩;unfold nf;rw [e1,e2];exact Nat.max_le.2 ⟨i2,j2⟩
 ·cases h6
theorem Aej (X:Int):sg (decide (X<0)) X.natAbs=X:=by
 unfold sg;split
 ·rename_i h
  simp at h;omega
 ·rename_i h
  simp at h;omega
theorem Lk (X:Int):Cg (decide (X<0)) (lim X.natAbs)=decide (nl X≤2048):=by
 by_cases h:nl X≤2048
 ·rw [Afx h,decide_eq_true h]
 ·have:Cg (decide (X<0)) (lim X.natAbs)=false:=by
   unfold Cg nl at *;simp [h]
  rw [this,decide_eq_false h]
theorem FracR.any {w:World}{v:Value}{x:Rat}(h:FracR w v x)(hn:nf x≤4294967296):AnyF w v (if nf x≤2048 then some x else none):=by
 obtain ⟨b1,a1,n1,c1,b2,a2,n2,c2,rfl,h1,h2⟩:=h;obtain ⟨s1,e1,x1,y1,rfl,k1,r1⟩:=h1;obtain ⟨s2,e2,x2,y2,rfl,k2,r2⟩:=h2;simp only [Value.agg.injEq,Array.mk.injEq,List.cons.injEq,and_true,Value.bool.injEq,Value.slice.injEq] at e1 e2;obtain ⟨rfl,rfl,rfl,rfl⟩:=e1;obtain ⟨rfl,rfl,rfl,rfl⟩:=e2;have m1:nl x.num≤nf x:=Nat.le_max_left _ _;have m2:nl (x.den:Int)≤nf x:=Nat.le_max_right _ _;refine ⟨_,lim x.num.natAbs,_,lim (x.den:Int).natAbs,⟨_,_,_,_,rfl,by unfold nl at *;omega,by unfold nl at *;omega,⟨_,_,rfl,Ap _,k1,r1⟩,⟨_,_,rfl,Ap _,k2,r2⟩⟩,?_⟩;unfold ratF okF;rw [Aj,Aj,Aej,Aej,Lk,Lk];have hd:decide (0<(x.den:Int))=true:=by simp;exact Nat.pos_of_ne_zero x.den_nz
 have hg:Int.gcd x.num x.den=1:=x.reduced;rw [hd,hg,Rat.num_divInt_den]
 have:(decide (nl x.num≤2048)&&decide (nl (x.den:Int)≤2048)&&true&&decide (1=1))=decide (nf x≤2048):=by
  unfold nf;by_cases u1:nl x.num≤2048<;>by_cases u2:nl (x.den:Int)≤2048<;>simp [u1,u2,Nat.max_le]
 rw [this];by_cases u:nf x≤2048<;>simp [u]
theorem As {w:World}{g T:Nat}{u1 u2 u3 u4:Value}(h:w.heap[g]? = some (.cells #[u1,u2,u3,u4] T (0,0))):w.cell? ⟨g,0,none⟩=some u1∧w.cell? ⟨g,1,none⟩=some u2∧w.cell? ⟨g,2,none⟩=some u3∧w.cell? ⟨g,3,none⟩=some u4:=by
 refine ⟨?_,?_,?_,?_⟩<;>simp [World.cell?,h]
theorem Or (v:Value)(o:Option Rat)(w:World)(h:AnyF w v o) :
  Calls Tryz.prog 95 #[v] w fun e w'=>e=.returned (.int .i64 (if o.isSome then 0 else 1))∧Ext w w':=by
 obtain ⟨b1,l1,b2,l2,⟨a1,c1,a2,c2,rfl,h2,h3,h4,h5⟩,rfl⟩:=h;have k1:=mK (fun w h=>Abr (.agg #[.bool b1,.slice a1 l1.length c1]) b1 l1 w h2 h);have k2:=mK (fun w h=>Abr (.agg #[.bool b2,.slice a2 l2.length c2]) b2 l2 w h3 h);replace h4:=mK h4;replace h5:=mK h5;by_cases g1:Cg b1 l1=true
 ·rw [if_pos g1] at k1
  by_cases g2:Cg b2 l2=true
  ·rw [if_pos g2] at k2
   obtain ⟨i1,n1⟩:=Iy h4.out g1;obtain ⟨i2,n2⟩:=Iy h5.out g2;have hn1:nl (sg b1 (val l1))≤1073741824:=nT n1 (by decide);have hn2:nl (sg b2 (val l2))≤1073741824:=nT n2 (by decide)
   have hr:(ratF b1 l1 b2 l2).isSome=decide (0<sg b2 (val l2)∧Int.gcd (sg b1 (val l1)) (sg b2 (val l2))=1):=by
    unfold ratF okF;rw [g1,g2];by_cases u1:0<sg b2 (val l2)<;>by_cases u2:Int.gcd (sg b1 (val l1)) (sg b2 (val l2))=1<;>simp [u1,u2]
   rw [hr];clear hr g1 g2 h2 h3 n1 n2;generalize sg b1 (val l1)=X at *;generalize sg b2 (val l2)=Y at *;have hsg:=mK (fun w h=>Mb (.agg #[.bool b2,.slice a2 l2.length c2]) Y w h hn2);have hcm:=mK (fun w h h'=>Xt (.agg #[.bool b1,.slice a1 l1.length c1]) (.agg #[.bool b2,.slice a2 l2.length c2]) X Y w hn1 hn2 h h');replace i1:=mK i1;replace i2:=mK i2;by_cases hy:0<Y
   ·have hs:Y.sign=1:=Int.sign_eq_one_of_pos hy
    rw [hs] at hsg
    have hgl:nl (Int.gcd X Y:Nat)≤1073741824:=by
     refine nT (An ?_) hn2;rw [Int.natAbs_natCast];exact Nat.le_of_dvd (by omega) (by simpa using (Int.natAbs_dvd_natAbs.2 (Int.gcd_dvd_right X Y)))
    have hof:=mK (fun w=>of_c 1 w (by omega) (by omega));by_cases hg:Int.gcd X Y=1
    ·rw [if_pos (decide_eq_true ⟨hy,hg⟩)]
     have hcp:=mK (fun v1 v2 w h1 h2=>Xu v1 v2 (Int.gcd X Y:Nat) 1 w hgl Pu h1 h2);rw [show (((Int.gcd X Y:Nat):Int)-1).sign=0 by rw [hg];rfl] at hcp;clear hs hgl hn1 hn2;generalize Int.gcd X Y=G at *;replace hy:=mK hy;replace hg:=mK hg;go_enter Tryz.func95,Tryz.ntmps95;go_wp2_with fail;refine (k1.out _ (h4.out.ext ((xR w).al _))).mono ?_;rintro e w1 ⟨rfl,hE1⟩;have hb:=As (hE1.blk (heap_alloc_new w _));have E1:=((xR w).al _).trans hE1;replace k2:=mK (k2.out w1 (h5.out.ext E1));replace hb:=hb;have hE1':=mK hE1;replace E1:=mK E1;clear hE1 k1;go_wp2_with fail;refine k2.out.mono ?_;rintro e w2 ⟨rfl,hE2⟩;have hE12:=hE1'.out.trans hE2;replace hb:=As (hE12.blk (heap_alloc_new w _));replace E1:=mK (E1.out.trans hE2);replace hE12:=mK hE12;clear hE2 k2 hE1';go_wp2_with fail;refine (hsg.out w2 (i2.out.ext E1.out)).mono ?_;rintro e w3 ⟨rfl,hE3⟩;replace hE12:=mK (hE12.out.trans hE3);replace hb:=As (hE12.out.blk (heap_alloc_new w _));replace E1:=mK (E1.out.trans hE3);clear hE3;go_wp2_with fail;refine (hcm.out w3 (i1.out.ext E1.out) (i2.out.ext E1.out)).mono ?_;rintro e w4 ⟨vg,rfl,hE4,hgv⟩;replace E1:=mK (E1.out.trans hE4);replace hgv:=mK hgv;clear hE4 hb hE12;go_wp2_with fail;refine (hof.out w4).mono ?_;rintro e w5 ⟨vo,rfl,hE5,hov⟩;replace E1:=mK (E1.out.trans hE5);replace hgv:=mK (hgv.out.r.ext hE5);replace hov:=mK hov.r;clear hE5;go_wp2_with fail;refine (hcp.out _ _ w5 hgv.out hov.out).mono ?_;rintro e w6 ⟨rfl,hE6⟩;replace E1:=mK (E1.out.trans hE6);clear hE6;go_wp2_with fail;go_ret;exact ⟨rfl,E1.out⟩
    ·rw [if_neg (fun h=>hg (of_decide_eq_true h).2)]
     obtain ⟨S,hS⟩:=nmE ((((Int.gcd X Y:Nat):Int)-1).sign)
     have hS0:(S==0)=false:=by
      rw [hS,beq_eq_false_iff_ne];intro h;have:=Int.sign_eq_zero_iff_zero.1 h;omega
     have hcp:=mK (fun v1 v2 w h1 h2=>Xu v1 v2 (Int.gcd X Y:Nat) 1 w hgl Pu h1 h2);rw [←hS] at hcp;replace hS:=mK hS;clear hs hgl hn1 hn2;generalize Int.gcd X Y=G at *;replace hy:=mK hy;replace hg:=mK hg;go_enter Tryz.func95,Tryz.ntmps95;go_wp2_with fail;refine (k1.out _ (h4.out.ext ((xR w).al _))).mono ?_;rintro e w1 ⟨rfl,hE1⟩;have hb:=As (hE1.blk (heap_alloc_new w _));have E1:=((xR w).al _).trans hE1;replace k2:=mK (k2.out w1 (h5.out.ext E1));replace hb:=hb;have hE1':=mK hE1;replace E1:=mK E1;clear hE1 k1;go_wp2_with fail;refine k2.out.mono ?_;rintro e w2 ⟨rfl,hE2⟩;have hE12:=hE1'.out.trans hE2;replace hb:=As (hE12.blk (heap_alloc_new w _));replace E1:=mK (E1.out.trans hE2);replace hE12:=mK hE12;clear hE2 k2 hE1';go_wp2_with fail;refine (hsg.out w2 (i2.out.ext E1.out)).mono ?_;rintro e w3 ⟨rfl,hE3⟩;replace hE12:=mK (hE12.out.trans hE3);replace hb:=As (hE12.out.blk (heap_alloc_new w _));replace E1:=mK (E1.out.trans hE3);clear hE3;go_wp2_with fail;refine (hcm.out w3 (i1.out.ext E1.out) (i2.out.ext E1.out)).mono ?_;rintro e w4 ⟨vg,rfl,hE4,hgv⟩;replace E1:=mK (E1.out.trans hE4);replace hgv:=mK hgv;clear hE4 hb hE12;go_wp2_with fail;refine (hof.out w4).mono ?_;rintro e w5 ⟨vo,rfl,hE5,hov⟩;replace E1:=mK (E1.out.trans hE5);replace hgv:=mK (hgv.out.r.ext hE5);replace hov:=mK hov.r;clear hE5;go_wp2_with fail;refine (hcp.out _ _ w5 hgv.out hov.out).mono ?_;rintro e w6 ⟨rfl,hE6⟩;replace E1:=mK (E1.out.trans hE6);clear hE6;go_wp2_with fail;go_ret;exact ⟨rfl,E1.out⟩
   ·rw [if_neg (fun h=>hy (of_decide_eq_true h).1)]
    have hs:Y.sign≤0:=by
     rcases Int.lt_trichotomy Y 0 with h|h|h
     ·rw [Int.sign_eq_neg_one_of_neg h];decide
     ·rw [h];decide
     ·exact absurd h hy
    generalize Y.sign=S at *;replace hy:=mK hy;go_enter Tryz.func95,Tryz.ntmps95;go_wp2_with fail;refine (k1.out _ (h4.out.ext ((xR w).al _))).mono ?_;rintro e w1 ⟨rfl,hE1⟩;have hb:=As (hE1.blk (heap_alloc_new w _));have E1:=((xR w).al _).trans hE1;replace k2:=mK (k2.out w1 (h5.out.ext E1));replace hb:=hb;have hE1':=mK hE1;replace E1:=mK E1;clear hE1 k1;go_wp2_with fail;refine k2.out.mono ?_;rintro e w2 ⟨rfl,hE2⟩;have hE12:=hE1'.out.trans hE2;replace hb:=As (hE12.blk (heap_alloc_new w _));replace E1:=mK (E1.out.trans hE2);replace hE12:=mK hE12;clear hE2 k2 hE1';go_wp2_with fail;refine (hsg.out w2 (i2.out.ext E1.out)).mono ?_;rintro e w3 ⟨rfl,hE3⟩;replace E1:=mK (E1.out.trans hE3);clear hE3;go_wp2_with fail;go_ret;exact ⟨rfl,E1.out⟩
  ·rw [if_neg g2] at k2
   have ho:ratF b1 l1 b2 l2=none:=by unfold ratF okF;simp [g2]
   rw [ho];clear ho g1 g2 h2 h3;simp only [Option.isSome_none];rw [if_neg (by decide)];go_enter Tryz.func95,Tryz.ntmps95;go_wp2_with fail;refine (k1.out _ (h4.out.ext ((xR w).al _))).mono ?_;rintro e w1 ⟨rfl,hE1⟩;have hb:=As (hE1.blk (heap_alloc_new w _));have E1:=((xR w).al _).trans hE1;replace k2:=mK (k2.out w1 (h5.out.ext E1));replace hb:=hb;have hE1':=mK hE1;replace E1:=mK E1;clear hE1 k1;go_wp2_with fail;refine k2.out.mono ?_;rintro e w2 ⟨rfl,hE2⟩;have hE12:=hE1'.out.trans hE2;replace hb:=As (hE12.blk (heap_alloc_new w _));replace E1:=mK (E1.out.trans hE2);replace hE12:=mK hE12;clear hE2 k2 hE1';go_wp2_with fail;go_ret;exact ⟨rfl,E1.out⟩
 ·rw [if_neg g1] at k1
  have ho:ratF b1 l1 b2 l2=none:=by unfold ratF okF;simp [g1]
  rw [ho];clear ho g1 h2 h3;simp only [Option.isSome_none];rw [if_neg (by decide)];go_enter Tryz.func95,Tryz.ntmps95;go_wp2_with fail;refine (k1.out _ (h4.out.ext ((xR w).al _))).mono ?_;rintro e w1 ⟨rfl,hE1⟩;replace hE1:=mK (((xR w).al _).trans hE1);go_wp2_with fail;go_ret;exact ⟨rfl,hE1.out⟩
def LF (w:World)(g:Nat)(os:List (Option Rat)):Prop:=
 ∀ k,k<os.length→∃ b1 a1 n1 c1 b2 a2 n2 c2,w.cell? ⟨g,k*4,none⟩=some (.bool b1)∧w.cell? ⟨g,k*4+1,none⟩=some (.slice a1 n1 c1)∧w.cell? ⟨g,k*4+2,none⟩=some (.bool b2)∧w.cell? ⟨g,k*4+3,none⟩=some (.slice a2 n2 c2) ∧
  AnyF w (.agg #[.bool b1,.slice a1 n1 c1,.bool b2,.slice a2 n2 c2]) (os.getD k none)
theorem LF.ext {w w':World}{g:Nat}{os:List (Option Rat)}(h:LF w g os)(e:Ext w w'):LF w' g os:=by
 intro k hk;obtain ⟨b1,a1,n1,c1,b2,a2,n2,c2,h1,h2,h3,h4,h5⟩:=h k hk;exact ⟨b1,a1,n1,c1,b2,a2,n2,c2,e.cell h1,e.cell h2,e.cell h3,e.cell h4,h5.ext e⟩
theorem Agb (g cap:Nat)(os:List (Option Rat))(w:World)(hn:os.length≤4294967296)(h:LF w g os) :
  Calls Tryz.prog 248 #[.slice (some ⟨g,0,none⟩) os.length cap] w fun e w'=>e=.returned (.bool (os.all Option.isSome))∧Ext w w':=by
 replace h:=mK h;obtain ⟨n,hnn⟩:=nmE os.length;rw [←hnn];obtain ⟨r,hr⟩:=nmE (os.all Option.isSome);rw [←hr];have hn2:n≤4294967296:=by omega
 replace hnn:=mK hnn;replace hr:=mK hr;clear hn;obtain ⟨wo,hwo⟩:=nmE (w:World);go_enter Tryz.func248,Tryz.ntmps248;go_wp2_with fail;go_loopw [7] (fun i wr=>∃ k,k≤n∧i=.int .i64 (k:Nat)∧Ext wo wr∧∀ j,j<k→(os.getD j none).isSome=true) (fun i _=>n-(intOf i).toNat)
 case atStart=>exact ⟨0,Nat.zero_le _,rfl,hwo ▸ xR _,fun j hj=>absurd hj (by omega)⟩
 case round=>
  obtain ⟨k,hk,rfl,hE,hj⟩:=hrel;by_cases hlt:k<n
  ·obtain ⟨b1,a1,n1,c1,b2,a2,n2,c2,h1,h2,h3,h4,h5⟩:=(h.out.ext (hwo ▸ hE)) k (by rw [←hnn.out];exact hlt)
   have hck:=mK (fun w h=>Or (.agg #[.bool b1,.slice a1 n1 c1,.bool b2,.slice a2 n2 c2]) (os.getD k none) w h);obtain ⟨o,ho⟩:=nmE (os.getD k none);rw [←ho] at hck h5;replace h5:=mK h5;replace hE:=mK hE;replace hj:=mK hj;replace ho:=mK ho;cases o with
   | none=>
    have hf:r=false:=by
     rw [hr.out,Bool.eq_false_iff];intro e;rw [List.all_eq_true] at e;have hkl:k<os.length:=by rw [←hnn.out];exact hlt
     have:=e _ (List.getElem_mem hkl);have h2:=ho.out;rw [List.getD_eq_getElem?_getD,List.getElem?_eq_getElem hkl] at h2;simp at h2;rw [←h2] at this;cases this
    subst hf;simp only [Option.isSome_none] at hck;go_wp2_with fail;refine (hck.out _ (h5.out.ext ((xR wr).al _))).mono ?_;rintro e w2 ⟨rfl,hE2⟩;replace hE:=mK (hE.out.trans (((xR wr).al _).trans hE2));clear hE2 h1 h2 h3 h4;go_wp2_with fail;go_ret;exact ⟨rfl,hwo ▸ hE.out⟩
   | some x=>
    simp only [Option.isSome_some] at hck;go_wp2_with fail;refine (hck.out _ (h5.out.ext ((xR wr).al _))).mono ?_;rintro e w2 ⟨rfl,hE2⟩;replace hE:=mK (hE.out.trans (((xR wr).al _).trans hE2));clear hE2 h1 h2 h3 h4;go_wp2_with fail;go_roundw
    case rel=>
     refine ⟨k+1,by omega,by go_num,hE.out,fun j hjk=>?_⟩;rcases Nat.lt_or_ge j k with h|h
     ·exact hj.out j h
     ·obtain rfl:j=k:=by omega
      rw [←ho.out];rfl
    case measure=>simp [intOf]<;>omega
  ·obtain rfl:n=k:=by omega
   have hf:r=true:=by
    rw [hr.out,List.all_eq_true];intro x hx;obtain ⟨j,hjl,rfl⟩:=List.getElem_of_mem hx;have:=hj j (by rw [hnn.out];exact hjl);rwa [List.getD_eq_getElem?_getD,List.getElem?_eq_getElem hjl] at this
   subst hf;replace hE:=mK hE;replace hj:=mK hj;go_wp2_with fail;go_ret;exact ⟨rfl,hwo ▸ hE.out⟩
theorem Ae {P:Program}{fn:Func}{p q:Tmp}{ty:TypeId}(h:fn.results=#[.cell p ty,.tmp q])(tmps:Array Value)(w:World)(g:Nat)(t:TypeId)(cs:Array Value)(u:Value)(d:TypeDesc)
  (hp:tmps.getD p undef=.pointer (some ⟨g,0,none⟩)) (hq:tmps.getD q undef=u) (hg:w.heap[g]? = some (.cells cs t (0,0)))
  (hu:P.underlying ty=some d) (hd:(match d with | .struct _ | .array _ _=>true|_=>false)=true) (hi:(P.info? ty).map (·.size)=some cs.size) :
  (results fn tmps).run P w=.ok (.tuple #[.agg cs,u]) w:=by
 have hp':tmps[p]?.getD undef=.pointer (some ⟨g,0,none⟩):=by simpa using hp
 have hq':tmps[q]?.getD undef=u:=by simpa using hq
 simp [results,h,hp',hq',asAddr,run_loadVar_row w g t ty cs (0,0) d hg hu hd hi]
theorem Abe:OkL []:=by intro x hx;simp at hx
def Au:Value→Bool
 | .int _ _=>false
 | _=>true
theorem Row.flat {w:World}{a:Option Addr}{l:List Nat}{g T:Nat}{fr:Nat×Nat}{old:Array Value}(h:Row w a (limV l))(hg:w.heap[g]? = some (.cells old T fr))(ho:old.all Au=true)(cs:Array Value):Row (w.setRow g cs) a (limV l):=by
 obtain ⟨b,off,h1,h2⟩:=h;refine ⟨b,off,h1,fun j hj=>?_⟩;have hc:=h2 j hj
 have hne:b≠g:=by
  rintro rfl;rw [Bs _ _ (by rw [Ah] at hj;exact hj)] at hc
  have hc2:old[off+j]? = some (.int .u32 ((l.getD j 0:Nat):Int)):=by
   simp only [World.cell?,hg] at hc;simpa using hc
  obtain ⟨hlt,he⟩:=Array.getElem?_eq_some_iff.1 hc2;have:=Array.all_eq_true.1 ho _ hlt;rw [he] at this;cases this
 have:((w.setRow g cs).heap[b]?)=w.heap[b]?:=setRow_other _ _ _ _ hne;simp only [World.cell?,this] at hc ⊢;exact hc
theorem IntR.flat {w:World}{v:Value}{x:Int}{g T:Nat}{fr:Nat×Nat}{old:Array Value}(h:IntR w v x)(hg:w.heap[g]? = some (.cells old T fr))(ho:old.all Au=true)(cs:Array Value):IntR (w.setRow g cs) v x:=by
 obtain ⟨s,h1,a,c,h2,h3,r⟩:=h;exact ⟨s,h1,a,c,h2,h3,r.flat hg ho cs⟩
theorem FracR.flat {w:World}{v:Value}{q:Rat}{g T:Nat}{fr:Nat×Nat}{old:Array Value}(h:FracR w v q)(hg:w.heap[g]? = some (.cells old T fr))(ho:old.all Au=true)(cs:Array Value):FracR (w.setRow g cs) v q:=by
 obtain ⟨b1,a1,n1,c1,b2,a2,n2,c2,h1,h2,h3⟩:=h;exact ⟨b1,a1,n1,c1,b2,a2,n2,c2,h1,h2.flat hg ho cs,h3.flat hg ho cs⟩
theorem Afo {w:World}{g:Nat}{b1 b2 b3 b4:Bool}{a1 a2 a3 a4:Option Addr}{n1 c1 n2 c2 n3 c3 n4 c4:Nat}{o1 o2:Option Rat}{T:Nat}
  (hg:w.heap[g]? = some (.cells #[.bool b1,.slice a1 n1 c1,.bool b2,.slice a2 n2 c2,.bool b3,.slice a3 n3 c3,.bool b4,.slice a4 n4 c4] T (0,0)))
  (h:AnyF w (.agg #[.bool b1,.slice a1 n1 c1,.bool b2,.slice a2 n2 c2]) o1) (h':AnyF w (.agg #[.bool b3,.slice a3 n3 c3,.bool b4,.slice a4 n4 c4]) o2):LF w g [o1,o2]:=by
 intro k hk;have hk2:k=0∨k=1:=by simp at hk;omega
 rcases hk2 with rfl|rfl
 ·exact ⟨_,_,_,_,_,_,_,_,by simp [World.cell?,hg],by simp [World.cell?,hg],by simp [World.cell?,hg],by simp [World.cell?,hg],h⟩
 ·exact ⟨_,_,_,_,_,_,_,_,by simp [World.cell?,hg],by simp [World.cell?,hg],by simp [World.cell?,hg],by simp [World.cell?,hg],h'⟩
theorem Ai8 (X Y:Int)(hY:Y≠0):nf (Rat.divInt X Y)≤max (nl X) (nl Y):=by
 unfold nf;rw [Ok,Ol X Y hY,if_neg hY];have h1:=Ii X (Int.gcd X Y);have h2:=Ii Y (Int.gcd X Y);split<;>(try rw [Ug,Ug])<;>omega
theorem Gx (x y:Rat):nf (x-y)≤nf x+nf y+1:=by
 rw [←Abp];refine nT (Ai8 _ _ (Aao x y)) ?_;have h1:=Ee x.num y.den;have h2:=Ee y.num x.den;have h3:=Ee x.den y.den;have h4:=Zk (x.num*y.den) (y.num*x.den);unfold nf;omega
theorem Uh {n:Int}(h0:-9223372036854775808≤n)(h1:n<9223372036854775808):nl n≤2048:=by
 unfold nl;exact nT (Cc (k:=2) (by omega)) (by omega)
theorem Aai {l m:List Nat}(hl:l.length=m.length)(h:∀ j,j<l.length→l.getD j 0=m.getD j 0):l=m:=by
 refine List.ext_getElem hl fun j h1 h2=>?_;have:=h j h1;simpa [List.getD_eq_getElem?_getD,h1,h2] using this
theorem Md (v1 v2:Value)(b1 b2:Bool)(l1 l2:List Nat)(w:World)(hl1:l1.length≤4294967296)(_hl2:l2.length≤4294967296)(h1:AnyR w v1 b1 l1)(h2:AnyR w v2 b2 l2) :
  Calls Tryz.prog 180 #[v1,v2] w fun e w'=>e=.returned (.bool (decide (b1=b2∧l1=l2)))∧Ext w w':=by
 obtain ⟨a1,c1,rfl,ok1,_,r1⟩:=h1;obtain ⟨a2,c2,rfl,ok2,_,r2⟩:=h2;by_cases hb:b1=b2
 ·by_cases hlen:l1.length=l2.length
  ·subst hb
   obtain ⟨r,hr⟩:=nmE (decide (b1=b1∧l1=l2));rw [←hr];obtain ⟨g1,o1,ha1,hc1⟩:=r1;obtain ⟨g2,o2,ha2,hc2⟩:=r2;obtain ⟨n,hn⟩:=nmE l1.length;have hn2:n=l2.length:=by omega
   have hnb:n≤4294967296:=by omega
   rw [←hn,←hn2];obtain ⟨wb,hwb⟩:=nmE ((w.alloc (.cells #[.bool b1,.slice a1 n c1] 52)).alloc (.cells #[.bool b1,.slice a2 n c2] 52));have hE:=mK (aLe2 hwb);have z0:=aL20 hwb;have z1:=aL21 hwb;have y0:=Ac z0;have y1:=Ac z1;replace hwb:=mK hwb;replace hr:=mK hr;replace hn:=mK hn;replace hn2:=mK hn2;replace ha1:=mK ha1;replace ha2:=mK ha2;replace hc1:=mK hc1;replace hc2:=mK hc2;clear hlen z0 z1;go_enter Tryz.func180,Tryz.ntmps180;go_wp2_with fail;rw [←hwb.out];obtain ⟨wo,hwo⟩:=nmE (wb:World);go_loopw [5] (fun i wr=>∃ k,k≤n∧i=.int .i64 (k:Nat)∧Ext wo wr∧∀ j,j<k→l1.getD j 0=l2.getD j 0) (fun i _=>n-(intOf i).toNat)
   case atStart=>exact ⟨0,Nat.zero_le _,rfl,hwo ▸ xR _,fun j hj=>absurd hj (by omega)⟩
   case round=>
    obtain ⟨k,hk,rfl,hX,hj⟩:=hrel;have x0:=(hwo ▸ hX:Ext wb wr).cell y0.2;have x1:=(hwo ▸ hX:Ext wb wr).cell y1.2;have hEw:Ext w wr:=hE.out.trans (hwo ▸ hX);clear y0 y1;by_cases hlt:k<n
    ·have u1:k<l1.length:=by rw [←hn.out];exact hlt
     have u2:k<l2.length:=by rw [←hn2.out];exact hlt
     have e1:wr.cell? ⟨g1,o1+k,none⟩=some (.int .u32 (l1.getD k 0:Nat)):=by
      have:=hEw.cell (hc1.out k (by rw [Ah];exact u1));rwa [Bs _ _ u1] at this
     have e2:wr.cell? ⟨g2,o2+k,none⟩=some (.int .u32 (l2.getD k 0:Nat)):=by
      have:=hEw.cell (hc2.out k (by rw [Ah];exact u2));rwa [Bs _ _ u2] at this
     have q1:=ha1.out (At u1);have q2:=ha2.out (At u2);subst q1;subst q2
     have hne:l1.getD k 0≠l2.getD k 0→r=false:=by
      intro h;rw [hr.out];refine decide_eq_false (fun e=>h (by rw [e.2]))
     have hs:∀ j,j<k+1→l1.getD k 0=l2.getD k 0→l1.getD j 0=l2.getD j 0:=by
      intro j h e;rcases Nat.lt_or_ge j k with h1|h1
      ·exact hj j h1
      ·obtain rfl:j=k:=by omega
       exact e
     generalize l1.getD k 0=x at *;generalize l2.getD k 0=y at *;replace hs:=mK hs;replace hne:=mK hne;replace hEw:=mK hEw;replace hX:=mK hX;clear hj u1 u2 hc1 hc2 ha1 ha2;by_cases hxy:x=y
     ·subst hxy
      go_wp2_with fail;go_quiet (fail);go_wp2_with fail;go_roundw
      case rel=>exact ⟨k+1,by omega,by go_num,hX.out.drN _,fun j h=>hs.out j h (by trivial)⟩
      case measure=>simp [intOf]<;>omega
     ·have hb1:((x:Int)==(y:Int))=false:=by rw [beq_eq_false_iff_ne];omega
      obtain rfl:=hne.out hxy;replace hxy:=mK hxy;go_wp2_with fail;go_quiet (fail);go_wp2_with fail;go_ret;exact ⟨rfl,hEw.out.drN _⟩
    ·obtain rfl:n=k:=by omega
     have hrt:r=true:=by
      rw [hr.out];exact decide_eq_true ⟨by trivial,Aai (by rw [←hn.out,←hn2.out]) (fun j h=>hj j (by rw [hn.out];exact h))⟩
     subst hrt;replace hEw:=mK hEw;clear hj hX;go_wp2_with fail;go_ret;exact ⟨rfl,hEw.out⟩
  ·have hf:decide (b1=b2∧l1=l2)=false:=decide_eq_false (fun h=>hlen (by rw [h.2]))
   rw [hf];have hl:((l1.length:Int)==(l2.length:Int))=false:=by rw [beq_eq_false_iff_ne];omega
   subst hb;clear hf r1 r2;generalize l1.length=n1 at *;generalize l2.length=n2 at *;replace hlen:=mK hlen;go_enter Tryz.func180,Tryz.ntmps180;go_wp2_with fail;go_ret;exact ⟨rfl,((xR _).al _).al _⟩
 ·have hf:decide (b1=b2∧l1=l2)=false:=decide_eq_false (fun h=>hb h.1)
  rw [hf];have hbb:(b1==b2)=false:=by rw [beq_eq_false_iff_ne];exact hb
  clear hf r1 r2;generalize l1.length=n1 at *;generalize l2.length=n2 at *;replace hb:=mK hb;go_enter Tryz.func180,Tryz.ntmps180;go_wp2_with fail;go_ret;exact ⟨rfl,((xR _).al _).al _⟩
theorem Jj {P:Program}{ops:Array Oper}{rest:List Oper}{o:Oper}{a:Act}{Q:Exit→Act→World→Prop}{w w':World}{v' vs vx:Value}(hgd:o.guard=none)(s x:Operand)(t:TypeId)
  (ho:o.op=.call { callee:=.builtin .append,args:=#[s,x],argTypes:=#[t,t] }) (hs:a.eval s=vs) (hx:a.eval x=vx)
  (hr:(Builtin.append_ #[t,t] o.type #[vs,vx]).run P w=.ok v' w') (h:wpList P ops Q rest (a.put o.dst v') w'):wpList P ops Q (o::rest) a w:=by
 refine wpList_plain hgd fun K hK=>?_;unfold Oper.wp execOp;simp only [ho,resolve,invoke,builtin,Sem.run_bind,Sem.run_pure,Result.andThen_ok,List.map_toArray,List.map_cons,List.map_nil,hs,hx,hr];exact hK _ _ h
theorem Kc {P:Program}{o:Oper}{a:Act}{S:World→Value→Prop}{w w':World}{v' vs vx:Value}(s x:Operand)(t:TypeId)
  (ho:o.op=.call { callee:=.builtin .append,args:=#[s,x],argTypes:=#[t,t] }) (hs:a.eval s=vs) (hx:a.eval x=vx)
  (hr:(Builtin.append_ #[t,t] o.type #[vs,vx]).run P w=.ok v' w') (h:S w' v'):Bu P S ((execOp a.eval o).run P w):=by
 unfold execOp;simp only [ho,resolve,invoke,builtin,Sem.run_bind,Sem.run_pure,Result.andThen_ok,List.map_toArray,List.map_cons,List.map_nil,hs,hx,hr];exact h
structure But (g:Nat) (w w':World):Prop where
 os:w'.os=w.os
 tape:w'.tape=w.tape
 output:w'.output=w.output
 size:w.heap.size≤w'.heap.size
 block:∀ k,k<w.heap.size→k≠g→w'.heap[k]? = w.heap[k]?
theorem But.refl (g:Nat)(w:World):But g w w:=⟨rfl,rfl,rfl,nR _,fun _ _ _=>rfl⟩
theorem But.trans {g:Nat}{a b c:World}(h:But g a b)(k:But g b c):But g a c:=
 ⟨k.os.trans h.os,k.tape.trans h.tape,k.output.trans h.output,nT h.size k.size,fun i hi hn=>(k.block i (Nat.lt_of_lt_of_le hi h.size) hn).trans (h.block i hi hn)⟩
theorem But.of_ext {g:Nat}{w w':World}(h:Ext w w'):But g w w':=⟨h.os,h.tape,h.output,h.size,fun k hk _=>h.block k hk⟩
theorem But.row (g:Nat)(w:World)(cs:Array Value):But g w (w.setRow g cs):=
 ⟨rfl,rfl,rfl,by simp [World.setRow],fun k _ hn=>setRow_other _ _ _ _ hn⟩
theorem But.blk {g k:Nat}{w w':World}{o:Obj}(h:But g w w')(hk:w.heap[k]? = some o)(hn:k≠g):w'.heap[k]? = some o:=by
 rw [h.block k (Array.getElem?_eq_some_iff.1 hk).1 hn];exact hk
theorem But.ext {g:Nat}{w wr w':World}(e:Ext w wr)(h:But g wr w')(hg:w.heap.size≤g):Ext w w':=
 ⟨h.os.trans e.os,h.tape.trans e.tape,h.output.trans e.output,nT e.size h.size,fun k hk=>(h.block k (Nat.lt_of_lt_of_le hk e.size) (by omega)).trans (e.block k hk)⟩
structure TwR (g:Nat) (cs:Array Value) (w w':World):Prop where
 but:But g w w'
 own:w'.heap[g]? = w.heap[g]?∨w'.heap[g]? = some (.cells cs 136 (0,0))
theorem TwR.refl {g:Nat}{cs:Array Value}(w:World):TwR g cs w w:=⟨But.refl _ _,.inl rfl⟩
theorem TwR.trans {g:Nat}{cs:Array Value}{a b c:World}(h:TwR g cs a b)(k:TwR g cs b c):TwR g cs a c:=by
 refine ⟨h.but.trans k.but,?_⟩;rcases k.own with e|e
 ·rcases h.own with f|f
  ·exact .inl (e.trans f)
  ·exact .inr (e.trans f)
 ·exact .inr e
theorem TwR.of_ext {g:Nat}{cs:Array Value}{w w':World}(h:Ext w w')(hg:g<w.heap.size):TwR g cs w w':=⟨But.of_ext h,.inl (h.block g hg)⟩
theorem Oa (w:World)(g n cap m c:Nat)(a:Option Addr)(l q:List Nat)(ty:TypeId)(hg:w.heap[g]? = some (.cells (limV q).toArray 136 (0,0)))(hq:q.length=cap)(hm:m=l.length)(hroom:n+m≤cap)(hr:Row w a (limV l)) :
  ∃ w',(Builtin.append_ #[50,50] ty #[.slice (some ⟨g,0,none⟩) n cap,.slice a m c]).run Tryz.prog w=.ok (.slice (some ⟨g,0,none⟩) (n+m) cap) w' ∧
   w'.heap[g]? = some (.cells (limV (q.take n++l++q.drop (n+m))).toArray 136 (0,0))∧But g w w':=by
 subst hm;obtain ⟨i0,hi,hz0,hz1,hz2⟩:=info_parts Dp;obtain ⟨b,off,ha,hc⟩:=hr;cases a with
 | none=>
  have hl:l=[]:=by
   cases l with
   | nil=>rfl
   | cons x l=>exact absurd (ha (by simp [limV])) (by simp)
  subst hl;refine ⟨w,?_,?_,But.refl _ _⟩
  ·simp at hroom
   simp [Builtin.append_,run_underlying Bf,sizeOf,typeInfo,hi,Builtin.lenOf,Builtin.firstCells,hroom,storeCells]
  ·simpa using hg
 | some ad=>
  have hnews:∀ j u,(limV l)[j]? = some u→w.cell? (ad.add j)=some u:=by
   intro j u hu
   have hne:limV l≠[]:=by
    intro h0;rw [h0] at hu;cases hu
   have:=ha hne;rw [Option.some.inj this];exact In hc j u hu
  have h:=run_append_room (P:=Tryz.prog) w 50 ty 136 i0 Bf hi g n cap (limV q).toArray hg ad l.length c (limV l) (by rw [hz1,Ah,Nat.mul_one]) hnews (Lf l) hroom (by rw [hz1,Ah];simp [Ah];omega);refine ⟨_,h,?_,But.row _ _ _⟩;rw [setRow_heap _ _ _ _ _ _ hg,hz1,Ah];simp [limV]
def TwinR (w:World)(v:Value)(b:Bool)(l:List Nat):Prop:=
 ∃ g c,v=.agg #[.bool b,.slice (some ⟨g,0,none⟩) l.length c]∧OkL l∧l.length+1≤c∧(∀ j,j<(limV l).length→w.cell? ⟨g,0+j,none⟩=some ((limV l).getD j undef))∧w.cell? ⟨g,l.length,none⟩=some (.int .u32 7777)
theorem TwinR.ext {w w':World}{v:Value}{b:Bool}{l:List Nat}(h:TwinR w v b l)(e:Ext w w'):TwinR w' v b l:=by
 obtain ⟨g,c,h1,h2,h3,h4,h5⟩:=h;exact ⟨g,c,h1,h2,h3,fun j hj=>e.cell (h4 j hj),e.cell h5⟩
theorem TwinR.any {w:World}{v:Value}{b:Bool}{l:List Nat}(h:TwinR w v b l):AnyR w v b l:=by
 obtain ⟨g,c,h1,h2,h3,h4,h5⟩:=h;exact ⟨_,c,h1,h2,by omega,g,0,fun _=>rfl,h4⟩
def OneN (lo:Nat)(W:World)(v:Value):Prop:=∃ k,v=.slice (some ⟨k,0,none⟩) 1 1∧lo≤k∧W.heap[k]? = some (.cells #[.int .u32 7777] 136 (0,0))
theorem Ed {g:Nat}{cs:Array Value}{ss:List FSpec}(c:Value)(h:StableAll (TwR g cs) ss):StableAll (TwR g cs) (.val c::ss):=⟨Ov c,h⟩
theorem Ab8 {g:Nat}{cs:Array Value}{ss:List FSpec}(lo:Nat)(hlo:g<lo)(h:StableAll (TwR g cs) ss):StableAll (TwR g cs) (.pred (OneN lo)::ss):=by
 refine ⟨?_,h⟩;rintro W W' v hR ⟨k,h1,h2,h3⟩;exact ⟨k,h1,h2,hR.but.blk h3 (by omega)⟩
theorem Ab9 {g:Nat}{cs:Array Value}{ss:List FSpec}(x:Value)(h:StableAll (TwR g cs) ss):StableAll (TwR g cs) (.pred (fun W v=>v=x∧W.heap[g]? = some (.cells cs 136 (0,0)))::ss):=by
 refine ⟨?_,h⟩;rintro W W' v hR ⟨h1,h2⟩;refine ⟨h1,?_⟩;rcases hR.own with e|e
 ·rw [e];exact h2
 ·exact e
theorem Afy {P:Program}{S:World→Value→Prop}{r:Result Next}{X c:Prop} [Decidable c] (hw:c)(h:Bu P S r):if c then Bu P S r else X:=by rw [if_pos hw];exact h
theorem make0 (n:Nat)(w:World)(h:n≤70368744177664):(Instr.makeSlice 50 (.int .i64 0) (.int .i64 n)).run Tryz.prog w=.ok (.slice (some ⟨w.heap.size,0,none⟩) 0 n) (w.alloc (.cells (limV (List.replicate n 0)).toArray 136)):=by
 obtain ⟨i0,hi,hz0,hz1,hz2⟩:=info_parts Dp;have:=run_make w 50 136 i0 _ Bf hi hz0 .i64 .i64 0 n (by omega) (by omega) (by rw [hz2];omega) (by omega);rw [this,hz1]
 have e:madeCells #[Value.int IntKind.u32 0] (n*1)=(limV (List.replicate n 0)).toArray:=by
  simp [madeCells,limV,Array.ext_iff,Nat.mod_one]
 simp only [Int.toNat_natCast,Value.cells,e];rfl
theorem Acj {g:Nat}{cs:Array Value}{id:Nat}{l:List Oper}{a:Act}{w:World}{Q:Exit→Act→World→Prop}(specs:List FSpec)(hdr:∀ w:World,TwR g cs w w.drew)(hok:okFree specs.length a.tmps.size l=true)(hst:StableAll (TwR g cs) specs)
  (h:freeSteps Tryz.prog l (TwR g cs) w Q 0 specs l a []):(Code.region id l.toArray true).wp Tryz.prog Q a w:=
 region_free (TwR g cs) specs mixed hok TwR.refl (fun _ _ _=>TwR.trans) hdr (stableAll_mem hst) h
theorem TwR.dr {g:Nat}{cs:Array Value}(w:World):TwR g cs w w.drew:=⟨But.of_ext (xR w).dr,.inl rfl⟩
theorem Sr (v x:Value)(b:Bool)(l:List Nat)(w:World)(hl:l.length≤4294967296)(h:TwinR w v b l)(hx:AnyR w x b l) :
  Calls Tryz.prog 109 #[v,x] w fun e w'=>e=.returned (.bool true)∧Ext w w':=by
 have h0:=h.any;obtain ⟨g,ct,rfl,okl,hct,-,h7⟩:=h;have hx0:=hx;obtain ⟨a,c,rfl,-,hc,-⟩:=hx;have SM:=mK (fun W (e:Ext w W)=>Md _ _ b b l l W hl hl (h0.ext e) (hx0.ext e));rw [show decide (b=b∧l=l)=true by simp] at SM;obtain ⟨n,hn⟩:=nmE l.length;rw [←hn] at h7 hct hc hl SM ⊢;replace hn:=mK hn;clear h0 hx0 okl;obtain ⟨wb,hwb⟩:=nmE ((w.alloc (.cells #[.bool b,.slice (some ⟨g,0,none⟩) n ct] 52)).alloc (.cells #[.bool b,.slice a n c] 52));have hE:=aLe2 hwb;have z0:=aL20 hwb;have z1:=aL21 hwb;have h00:∀ W,Ext wb W→W.cell? ⟨w.heap.size,0,none⟩=some (.bool b):=fun W e=>e.cell (Ac z0).1;have h01:∀ W,Ext wb W→W.cell? ⟨w.heap.size,1,none⟩=some (.slice (some ⟨g,0,none⟩) n ct):=fun W e=>e.cell (Ac z0).2;have h10:∀ W,Ext wb W→W.cell? ⟨w.heap.size+1,0,none⟩=some (.bool b):=fun W e=>e.cell (Ac z1).1;have h11:∀ W,Ext wb W→W.cell? ⟨w.heap.size+1,1,none⟩=some (.slice a n c):=fun W e=>e.cell (Ac z1).2;have h77:∀ W,Ext wb W→W.cell? ⟨g,n,none⟩=some (.int .u32 7777):=fun W e=>(hE.trans e).cell h7;have hgt:(n:Int)<ct:=by omega
 have hle:(n:Int)+1≤ct:=by omega
 have hlt:(n:Int)<(n:Int)+1:=by omega
 have hlt2:n<n+1:=by omega
 have hwr:IntKind.i64.wrap ((n:Int)+1)=(n:Int)+1:=by rw [IntKind.wrap_i64];omega
 have hn0:0≤(n:Int)+1:=by omega
 have htn:((n:Int)+1).toNat=n+1:=by omega
 replace hE:=mK hE;replace hwb:=mK hwb;clear z0 z1 h7;go_enter Tryz.func109,Tryz.ntmps109;go_wp2_with fail;rw [←hwb.out];clear hwb;apply Ad [.val _,.val _,.val (.bool true),.val _,.val _,.val _,.val _,.val _,.val _,.val _,.val _,.val _,.val _,.val _,.val _,.val _,.val _,.val _,.val _,.val _,.val _,.val _,.val _,.val _,.val _,.val _,.val _] (by kernel_rfl) (stable_vals _ (stable_vals _ (stable_vals _ (stable_vals _ (stable_vals _ (stable_vals _ (stable_vals _ (stable_vals _ (stable_vals _ (stable_vals _ (stable_vals _ (stable_vals _ (stable_vals _ (stable_vals _ (stable_vals _ (stable_vals _ (stable_vals _ (stable_vals _ (stable_vals _ (stable_vals _ (stable_vals _ (stable_vals _ (stable_vals _ (stable_vals _ (stable_vals _ (stable_vals _ (stable_vals _ trivial)))))))))))))))))))))))))));iterate 2 (refine ⟨fun W hW _=>by go_simp;first|exact ⟨xR _,rfl⟩|rfl,?_⟩)
 refine ⟨fun W hW _=>?g2,?_⟩
 case g2=>
  go_simp;refine (SM.out W (hE.out.trans hW)).mono ?_;rintro e w' ⟨rfl,e1⟩;exact ⟨rfl,e1⟩
 iterate 24 (refine ⟨fun W hW _=>by go_simp;first|exact ⟨xR _,rfl⟩|exact xR _|rfl,?_⟩)
 intro W hW _;replace hE:=mK (hE.out.trans hW);clear hwr hn0 htn;clear hW h00 h01 h10 h11 h77;go_simp;go_wp2_with fail;go_ret;exact ⟨rfl,hE.out⟩
theorem Du {id:Nat}{l:List Oper}{a:Act}{w:World}{Q:Exit→Act→World→Prop}(specs:List Aloof.FSpec)(hok:Aloof.okFree specs.length a.tmps.size l=true)(hst:Aloof.StableAll Ext specs)
  (h:Aloof.freeSteps Tryz.prog l Ext w Q 0 specs l a []):(Code.region id l.toArray true).wp Tryz.prog Q a w:=
 Aloof.region_free Ext specs mixed hok xR (fun _ _ _=>Ext.trans) (fun w=>(xR w).dr) (Aloof.stableAll_mem hst) h
def TwG (w:World)(g:Nat)(l:List Nat):Prop:=OkL l∧w.heap[g]? = some (.cells (limV (l++[7777])).toArray 136 (0,0))
theorem TwG.ext {w w':World}{g:Nat}{l:List Nat}(h:TwG w g l)(e:Ext w w'):TwG w' g l:=⟨h.1,e.blk h.2⟩
theorem TwG.lt {w:World}{g:Nat}{l:List Nat}(h:TwG w g l):g<w.heap.size:=(Array.getElem?_eq_some_iff.1 h.2).1
theorem TwG.other {w:World}{g k:Nat}{l:List Nat}(h:TwG w g l)(hk:g≠k)(cs:Array Value):TwG (w.setRow k cs) g l:=⟨h.1,(setRow_other _ _ _ _ hk).trans h.2⟩
theorem TwG.twin {w:World}{g:Nat}{l:List Nat}(h:TwG w g l)(b:Bool):TwinR w (.agg #[.bool b,.slice (some ⟨g,0,none⟩) l.length (l.length+1)]) b l:=by
 refine ⟨g,l.length+1,rfl,h.1,nR _,fun j hj=>?_,?_⟩
 ·have hj2:j<l.length:=by rwa [Ah] at hj
  simp only [World.cell?,h.2,Nat.zero_add];simp [limV,List.getElem?_append,hj2]
 ·simp only [World.cell?,h.2]
  simp [limV]
theorem TwG.owns {w:World}{g lo:Nat}{l:List Nat}(h:TwG w g l)(hlo:lo≤g)(hl:l.length≤4294967296):w.ownsRow lo 136 1 (.slice (some ⟨g,0,none⟩) l.length (l.length+1)) l.length (limV l):=by
 refine ⟨by simp [Ah],.inr ⟨g,l.length+1,_,rfl,hlo,h.2,by omega,by unfold maxLen;omega,by simp [Ah],?_⟩⟩;simp [limV]
def TwinK (lo:Nat)(w:World)(v:Value)(b:Bool)(l:List Nat):Prop:=∃ g,v=.agg #[.bool b,.slice (some ⟨g,0,none⟩) l.length (l.length+1)]∧lo≤g∧TwG w g l
theorem TwinK.ext {lo:Nat}{w w':World}{v:Value}{b:Bool}{l:List Nat}(h:TwinK lo w v b l)(e:Ext w w'):TwinK lo w' v b l:=by
 obtain ⟨g,h1,h2,h3⟩:=h;exact ⟨g,h1,h2,h3.ext e⟩
theorem TwinK.new {lo:Nat}{w w':World}{v:Value}{b:Bool}{l:List Nat}(h:TwinK w.heap.size w' v b l)(hl:lo≤w.heap.size):TwinK lo w' v b l∧∀ g∈Aloof.blks v,w.heap.size≤g∧g<w'.heap.size:=by
 obtain ⟨g,rfl,h2,h3⟩:=h;refine ⟨⟨g,rfl,by omega,h3⟩,fun k hk=>?_⟩
 have:k=g:=by
  have:g=k:=by simpa [Aloof.blks,Aloof.blk1,Value.cells] using hk
  exact this.symm
 subst this;exact ⟨h2,h3.lt⟩
theorem Av {R:World→World→Prop}{ss:List Aloof.FSpec}(c:Value)(h:Aloof.StableAll R ss):Aloof.StableAll R (.val c::ss):=Aloof.stable_vals c h
theorem Tk {ss:List Aloof.FSpec}(lo:Nat)(b:Bool)(l:List Nat)(h:Aloof.StableAll Ext ss):Aloof.StableAll Ext (.fresh (fun W v=>TwinK lo W v b l)::ss):=
 ⟨fun _ _ _ e h=>⟨TwinK.ext h.1 e,fun g hg=>Nat.lt_of_lt_of_le (h.2 g hg) e.size⟩,h⟩
theorem Sa (v:Value)(b:Bool)(l:List Nat)(w:World)(hl:l.length≤4294967296)(h:AnyR w v b l) :
  Calls Tryz.prog 94 #[v] w fun e w'=>∃ v',e=.returned v'∧TwinK w.heap.size w' v' b l∧Ext w w':=by
 obtain ⟨a,c,rfl,okl,hc,r⟩:=h;obtain ⟨n,hn⟩:=nmE l.length;rw [←hn];have hn2:n≤4294967296:=by omega
 have hmk:=fun w=>make0 (n+1) w (by omega);rw [show (((n+1:Nat)):Int)=(n:Int)+1 by omega] at hmk;obtain ⟨wb,hwb⟩:=nmE ((w.alloc (.cells #[.bool b,.slice a n c] 52)).alloc (.cells #[.bool false,.slice none 0 0] 52));have hE:=aLe2 hwb;have hsz:=aLs2 hwb;have z0:=aL20 hwb;have z1:=aL21 hwb;obtain ⟨w4,hrun,hg4,hbut⟩:=Oa (wb.alloc (.cells (limV (List.replicate (n+1) 0)).toArray 136)) wb.heap.size 0 (n+1) n c a l (List.replicate (n+1) 0) 50 (heap_alloc_new _ _) (by simp) hn (by omega) (r.ext (hE.al _));have hE4:Ext wb w4:=But.ext ((xR wb).al _) hbut (nR _);have z0':=hE4.blk z0;have z1':=hE4.blk z1;have hw4:=hbut.size;rw [show List.take 0 (List.replicate (n+1) 0)++l++List.drop (0+n) (List.replicate (n+1) 0)=l++[0] by simp [List.drop_replicate]] at hg4;obtain ⟨g,hgg⟩:=nmE wb.heap.size;rw [←hgg] at hg4 hrun hsz hbut;have hgl:g<w4.heap.size:=(Array.getElem?_eq_some_iff.1 hg4).1;rw [hwb] at hrun;rw [Nat.zero_add] at hrun;replace hE:=mK (hE.trans hE4);replace hrun:=mK hrun;replace hn:=mK hn;replace hgg:=mK hgg;clear hE4 z0 z1 hbut hw4 r hl;obtain ⟨new,hnew⟩:=nmE ((limV (l++[7777])).toArray);replace hnew:=mK hnew;have h00:∀ W,TwR g new w4 W→W.cell? ⟨w.heap.size,0,none⟩=some (.bool b):=fun W e=>(Ac (e.but.blk z0' (by omega))).1;have h01:∀ W,TwR g new w4 W→W.cell? ⟨w.heap.size,1,none⟩=some (.slice a n c):=fun W e=>(Ac (e.but.blk z0' (by omega))).2;have hsz2:=mK hsz;have hwb2:=mK hwb;go_enter Tryz.func94,Tryz.ntmps94;have hgs:g=w.heap.size+1+1:=by omega
 subst hgs;replace hsz:=mK hsz;replace hwb:=mK hwb;go_wp2_with (at_builtin;refine Jj rfl (.tmp 9) (.tmp 11) 50 rfl rfl rfl hrun.out ?_);clear hrun hmk
 apply Acj [.val _,.val _,.val _,.pred (OneN w4.heap.size),.pred (fun W v=>v=.slice (some ⟨w.heap.size+1+1,0,none⟩) (n+1) (n+1)∧W.heap[w.heap.size+1+1]? = some (.cells new 136 (0,0))),.val _,.val _,.val _,.val (.slice (some ⟨w.heap.size+1+1,0,none⟩) n (n+1))] TwR.dr (by kernel_rfl)
  (Ed _ (Ed _ (Ed _ (Ab8 _ hgl (Ab9 _ (Ed _ (Ed _ (Ed _ (Ed _ trivial)))))))))
 iterate 3 (refine ⟨fun W hW _=>by go_simp;exact ⟨TwR.refl _,rfl⟩,?_⟩)
 refine ⟨fun W hW hF=>?g3,fun v3=>?_⟩
 case g3=>
  have hx:=hW.but.size;have hR:Hid (TwR (w.heap.size+1+1) new W (W.alloc (.cells #[.int .u32 7777] 136))):=TwR.of_ext ((xR W).al _) (by omega);have hO:Hid (OneN w4.heap.size (W.alloc (.cells #[.int .u32 7777] 136)) (.slice (some ⟨W.heap.size,0,none⟩) 1 1)):=⟨_,rfl,hx,heap_alloc_new _ _⟩
  go_simp;exact ⟨hR.out,hO.out⟩
 refine ⟨fun W hW hF=>?g4,fun v4=>?_⟩
 case g4=>
  have d3:OneN w4.heap.size W v3:=hF.1 (by kernel_rfl);clear hF;obtain ⟨k,rfl,hk1,hk2⟩:=d3
  have hrow:Row W (some ⟨k,0,none⟩) (limV [7777]):=by
   refine ⟨k,0,fun _=>rfl,fun j hj=>?_⟩;have:j=0:=by simp [limV] at hj;omega
   subst this;unfold World.cell?
   simp only [Nat.zero_add,hk2];rfl
  have key:∀ q:List Nat,q.length=n+1→q.take n=l→W.heap[w.heap.size+1+1]? = some (.cells (limV q).toArray 136 (0,0)) →
    ∃ w',(Builtin.append_ #[50,50] 50 #[.slice (some ⟨w.heap.size+1+1,0,none⟩) n (n+1),.slice (some ⟨k,0,none⟩) 1 1]).run Tryz.prog W=.ok (.slice (some ⟨w.heap.size+1+1,0,none⟩) (n+1) (n+1)) w' ∧
     w'.heap[w.heap.size+1+1]? = some (.cells new 136 (0,0))∧But (w.heap.size+1+1) W w':=by
   intro q hq1 hq2 hq3;obtain ⟨w',h1,h2,h3⟩:=Oa W (w.heap.size+1+1) n (n+1) 1 1 (some ⟨k,0,none⟩) [7777] q 50 hq3 hq1 rfl (by omega) hrow;refine ⟨w',h1,?_,h3⟩;rw [h2,hnew.out,hq2,List.drop_of_length_le (by omega),List.append_nil]
  have hrun:∃ w',(Builtin.append_ #[50,50] 50 #[.slice (some ⟨w.heap.size+1+1,0,none⟩) n (n+1),.slice (some ⟨k,0,none⟩) 1 1]).run Tryz.prog W=.ok (.slice (some ⟨w.heap.size+1+1,0,none⟩) (n+1) (n+1)) w' ∧
     w'.heap[w.heap.size+1+1]? = some (.cells new 136 (0,0))∧But (w.heap.size+1+1) W w':=by
   rcases hW.own with e|e
   ·exact key (l++[0]) (by simp [hn.out]) (by rw [hn.out];simp) (e.trans hg4)
   ·exact key (l++[7777]) (by simp [hn.out]) (by rw [hn.out];simp) (by rw [e,hnew.out])
  obtain ⟨w',h1,h2,h3⟩:=hrun;refine Afy rfl ?_;refine Kc (.tmp 15) (.tmp 16) 50 rfl rfl rfl h1 ?_;exact ⟨⟨h3,.inr h2⟩,rfl,h2⟩
 iterate 3 (refine ⟨fun W hW _=>by go_simp;exact ⟨TwR.refl _,rfl⟩,?_⟩)
 refine ⟨fun W hW hF=>?g8,fun W hW hF=>?fin⟩
 case g8=>
  have d4:v4=.slice (some ⟨w.heap.size+1+1,0,none⟩) (n+1) (n+1)∧W.heap[w.heap.size+1+1]? = some (.cells new 136 (0,0)):=hF.1 (by kernel_rfl);replace d4:=d4.1;subst d4;have hle:(n:Int)≤(n:Int)+1:=by omega
  clear hF;go_simp;exact TwR.refl _
 case fin=>
  have d4:v4=.slice (some ⟨w.heap.size+1+1,0,none⟩) (n+1) (n+1)∧W.heap[w.heap.size+1+1]? = some (.cells new 136 (0,0)):=hF.1 rfl;obtain ⟨rfl,hg5⟩:=d4;have hBW:=hW.but.blk z1' (by omega);have hEW:=But.ext hE.out hW.but (by omega)
  have hg6:(W.setRow (w.heap.size+1) #[.bool b,.slice (some ⟨w.heap.size+1+1,0,none⟩) n (n+1)]).heap[w.heap.size+1+1]? = some (.cells (limV (l++[7777])).toArray 136 (0,0)):=by
   rw [setRow_other _ _ _ _ (by omega),hg5,hnew.out]
  have hT:TwinK w.heap.size (W.setRow (w.heap.size+1) #[.bool b,.slice (some ⟨w.heap.size+1+1,0,none⟩) n (n+1)]) (.agg #[.bool b,.slice (some ⟨w.heap.size+1+1,0,none⟩) n (n+1)]) b l:=
   ⟨_,by rw [hn.out],by omega,okl,hg6⟩
  have hF2:=mK (hEW.row (show w.heap.size≤w.heap.size+1 by omega) #[.bool b,.slice (some ⟨w.heap.size+1+1,0,none⟩) n (n+1)]);replace hT:=mK hT;clear hF hg5 hg6 hEW h00 h01 hW hg4 z0';go_simp;go_wp2_with (refine wpList_store_row rfl 52 (.tmp 2) (.tmp 22) rfl (w.heap.size+1) #[.bool b,.slice (some ⟨w.heap.size+1+1,0,none⟩) n (n+1)] rfl rfl 52 _ hBW (by kernel_rfl) rfl (by kernel_rfl) ?_);exact bodyPost_ret (results_cell_row rfl _ _ (w.heap.size+1) 52 #[.bool b,.slice (some ⟨w.heap.size+1+1,0,none⟩) n (n+1)] (0,0) _ rfl (setRow_heap _ _ _ _ _ _ hBW) Tryz.underlying52 rfl (by kernel_rfl)) rfl ⟨_,rfl,hT.out,hF2.out⟩
theorem Nq {id:Nat}{l:List Oper}{a:Act}{w:World}{Q:Exit→Act→World→Prop}(specs:List FSpec)(hok:okFree specs.length a.tmps.size l=true)(hst:StableAll Ext specs)
  (h:freeSteps Tryz.prog l Ext w Q 0 specs l a []):(Code.region id l.toArray true).wp Tryz.prog Q a w:=Ad specs hok hst h
theorem Lx {P:Program}{ops:Array Oper}{rest:List Oper}{o:Oper}{a:Act}{w:World}{Q:Exit→Act→World→Prop}(hw:Region.wanted o (yielded ops a.tmps)=true)(ty:TypeId)(x:Operand)(ho:o.op=.load ty x)
  (g:Nat) (hx:a.eval x=.pointer (some ⟨g,0,none⟩)) (t:TypeId) (cs:Array Value) (fr:Nat×Nat) (d:TypeDesc) (hg:w.heap[g]? = some (.cells cs t fr))
  (hu:P.underlying ty=some d) (hd:(match d with | .struct _ | .array _ _=>true|_=>false)=true) (hi:(P.info? ty).map (·.size)=some cs.size)
  (h:wpList P ops Q rest (a.put o.dst (.agg cs)) w):wpList P ops Q (o::rest) a w:=by
 simp only [wpList];rw [if_pos hw];exact .inl (wp_load_row ty x ho g hx t cs fr d hg hu hd hi h)
theorem Ev {P:Program}(w:World)(g o:Nat)(t ty:TypeId)(cs sub:Array Value)(fr:Nat×Nat)(d:TypeDesc)(hg:w.heap[g]? = some (.cells cs t fr))(hs:cs.extract o (o+sub.size)=sub)
  (hu:P.underlying ty=some d) (hd:(match d with | .struct _ | .array _ _=>true|_=>false)=true) (hi:(P.info? ty).map (·.size)=some sub.size) :
  (loadVar ty ⟨g,o,none⟩).run P w=.ok (.agg sub) w:=by
 have hl:(loadCells ⟨g,o,none⟩ sub.toList.length).run P w=.ok sub.toList.toArray w:=
  run_loadCells_list (P:=P) w ⟨g,o,none⟩ sub.toList (fun j v hv=>by
   have hadd:(⟨g,o,none⟩:Addr).add j=⟨g,o+j,none⟩:=by unfold Addr.add;split<;>simp_all
   rw [hadd,cell_of_row w g (o+j) cs t fr hg];have hv2:sub[j]? = some v:=by simpa using hv
   rw [←hs,Array.getElem?_extract] at hv2;split at hv2
   ·exact hv2
   ·cases hv2)
 cases hq:P.info? ty with
 | none=>simp [hq] at hi
 | some i=>
  have hs:i.size=sub.size:=by simpa [hq] using hi
  have hagg:(isAgg ty).run P w=.ok true w:=by
   unfold isAgg;rw [Sem.run_bind,run_underlying hu w];cases d<;>simp_all
  simp only [Array.length_toList,Array.toArray_toList] at hl;simp [loadVar,Sem.run_bind,hagg,sizeOf,typeInfo,hq,hs,hl]
theorem Nh {P:Program}{o:Oper}{a:Act}{w:World}{K:Act→World→Prop}{Q:Exit→Act→World→Prop}(ty:TypeId)(x:Operand)(ho:o.op=.load ty x)
  (g k:Nat) (hx:a.eval x=.pointer (some ⟨g,k,none⟩)) (t:TypeId) (cs sub:Array Value) (fr:Nat×Nat) (d:TypeDesc) (hg:w.heap[g]? = some (.cells cs t fr)) (hs:cs.extract k (k+sub.size)=sub)
  (hu:P.underlying ty=some d) (hd:(match d with | .struct _ | .array _ _=>true|_=>false)=true) (hi:(P.info? ty).map (·.size)=some sub.size)
  (h:K (a.put o.dst (.agg sub)) w):o.wp P a w K Q:=by
 unfold Oper.wp execOp;simp only [ho,hx,Instr.loadAt,Instr.sureAddr,Sem.run_bind,Sem.run_pure,Result.andThen_ok,Ev w g k t ty cs sub fr d hg hs hu hd hi];exact h
theorem Ab {P:Program}{ops:Array Oper}{rest:List Oper}{o:Oper}{a:Act}{w:World}{Q:Exit→Act→World→Prop}(hgd:o.guard=none)(ty:TypeId)(x:Operand)(ho:o.op=.load ty x)
  (g k:Nat) (hx:a.eval x=.pointer (some ⟨g,k,none⟩)) (t:TypeId) (cs sub:Array Value) (fr:Nat×Nat) (d:TypeDesc) (hg:w.heap[g]? = some (.cells cs t fr)) (hs:cs.extract k (k+sub.size)=sub)
  (hu:P.underlying ty=some d) (hd:(match d with | .struct _ | .array _ _=>true|_=>false)=true) (hi:(P.info? ty).map (·.size)=some sub.size)
  (h:wpList P ops Q rest (a.put o.dst (.agg sub)) w):wpList P ops Q (o::rest) a w:=
 wpList_plain hgd fun _ hK=>Nh ty x ho g k hx t cs sub fr d hg hs hu hd hi (hK _ _ h)
theorem Cv {P:Program}{ops:Array Oper}{rest:List Oper}{o:Oper}{a:Act}{w:World}{Q:Exit→Act→World→Prop}(hw:Region.wanted o (yielded ops a.tmps)=true)(ty:TypeId)(x:Operand)(ho:o.op=.load ty x)
  (g k:Nat) (hx:a.eval x=.pointer (some ⟨g,k,none⟩)) (t:TypeId) (cs sub:Array Value) (fr:Nat×Nat) (d:TypeDesc) (hg:w.heap[g]? = some (.cells cs t fr)) (hs:cs.extract k (k+sub.size)=sub)
  (hu:P.underlying ty=some d) (hd:(match d with | .struct _ | .array _ _=>true|_=>false)=true) (hi:(P.info? ty).map (·.size)=some sub.size)
  (h:wpList P ops Q rest (a.put o.dst (.agg sub)) w):wpList P ops Q (o::rest) a w:=by
 simp only [wpList];rw [if_pos hw];exact .inl (Nh ty x ho g k hx t cs sub fr d hg hs hu hd hi h)
theorem Ct {P:Program}{S:World→Value→Prop}{o:Oper}{a:Act}{W:World}{X:Prop}{c:Prop}{ic:Decidable c}(hw:c)(ty:TypeId)(x:Operand)(ho:o.op=.load ty x)
  (g k:Nat) (hx:a.eval x=.pointer (some ⟨g,k,none⟩)) (t:TypeId) (cs sub:Array Value) (fr:Nat×Nat) (d:TypeDesc) (hg:W.heap[g]? = some (.cells cs t fr)) (hs:cs.extract k (k+sub.size)=sub)
  (hu:P.underlying ty=some d) (hd:(match d with | .struct _ | .array _ _=>true|_=>false)=true) (hi:(P.info? ty).map (·.size)=some sub.size)
  (h:S W (.agg sub)):if c then Bu P S ((execOp a.eval o).run P W) else X:=by
 rw [if_pos hw];unfold execOp;simp only [ho,hx,Instr.loadAt,Instr.sureAddr,Sem.run_bind,Sem.run_pure,Result.andThen_ok,Ev W g k t ty cs sub fr d hg hs hu hd hi];exact h
theorem MagO.span {w:World}{base:Nat}{a:Option Addr}{n c:Nat}{l:List Nat}(h:MagO w base (.slice a n c) l):∀ g,a.map (·.block)=some g→base≤g∧g<w.heap.size:=by
 obtain ⟨_,h|⟨g,cap,cur,e,h1,h2,_⟩⟩:=h
 ·obtain ⟨e,_⟩:=h
  cases e;intro g hg;cases hg
 ·cases e
  intro k hk;simp at hk;subst hk;exact ⟨h1,(Array.getElem?_eq_some_iff.1 h2).1⟩
theorem Ya {b:Bool}{a:Option Addr}{n c g:Nat}(h:g∈Aloof.blks (.agg #[.bool b,.slice a n c])):a.map (·.block)=some g:=by
 cases a with
 | none=>simp [Aloof.blks,Aloof.blk1,Value.cells] at h
 | some a=>simpa [Aloof.blks,Aloof.blk1,Value.cells,eq_comm] using h
theorem IntO.span {w:World}{base:Nat}{v:Value}{x:Int}(h:IntO w base v x):∀ g∈Aloof.blks v,base≤g∧g<w.heap.size:=by
 obtain ⟨b,a,n,c,rfl⟩:=h.r.shape;obtain ⟨s,e,hm⟩:=h;cases e;exact fun g hg=>hm.span g (Ya hg)
theorem IntO.new {w w':World}{v:Value}{x:Int}{lo:Nat}(h:IntO w' w.heap.size v x)(hl:lo≤w.heap.size):IntO w' lo v x∧∀ g∈Aloof.blks v,w.heap.size≤g∧g<w'.heap.size:=
 ⟨h.mono hl,h.span⟩
theorem Yd {ss:List Aloof.FSpec}(lo:Nat)(x:Int)(h:Aloof.StableAll Ext ss):Aloof.StableAll Ext (.fresh (fun W v=>IntO W lo v x)::ss):=
 ⟨fun _ _ _ e h=>⟨h.1.ext e,fun g hg=>Nat.lt_of_lt_of_le (h.2 g hg) e.size⟩,h⟩
def FracK (lo:Nat)(w:World)(v:Value)(q:Rat):Prop:=FracO w lo v q∧(Aloof.blks v).Nodup
theorem FracK.ext {lo:Nat}{w w':World}{v:Value}{q:Rat}(h:FracK lo w v q)(e:Ext w w'):FracK lo w' v q:=⟨h.1.ext e,h.2⟩
theorem Ei (b1:Bool)(a1:Option Addr)(n1 c1:Nat)(b2:Bool)(a2:Option Addr)(n2 c2:Nat):Aloof.blks (.agg #[.bool b1,.slice a1 n1 c1,.bool b2,.slice a2 n2 c2])=Aloof.blks (.agg #[.bool b1,.slice a1 n1 c1])++Aloof.blks (.agg #[.bool b2,.slice a2 n2 c2]):=by
 cases a1<;>cases a2<;>rfl
theorem nodup1 (b:Bool)(a:Option Addr)(n c:Nat):(Aloof.blks (.agg #[.bool b,.slice a n c])).Nodup:=by
 cases a with
 | none=>exact List.nodup_nil
 | some a=>exact List.nodup_cons.2 ⟨by simp,List.nodup_nil⟩
theorem nodup2 {b1:Bool}{a1:Option Addr}{n1 c1:Nat}{b2:Bool}{a2:Option Addr}{n2 c2:Nat}(h:∀ g,g∈Aloof.blks (.agg #[.bool b1,.slice a1 n1 c1])→g∈Aloof.blks (.agg #[.bool b2,.slice a2 n2 c2])→False):(Aloof.blks (.agg #[.bool b1,.slice a1 n1 c1,.bool b2,.slice a2 n2 c2])).Nodup:=by
 rw [Ei];exact List.nodup_append.2 ⟨nodup1 _ _ _ _,nodup1 _ _ _ _,fun a h1 b h2 e=>h a h1 (e ▸ h2)⟩
theorem FracO.span {w:World}{base:Nat}{v:Value}{q:Rat}(h:FracO w base v q):∀ g∈Aloof.blks v,base≤g∧g<w.heap.size:=by
 obtain ⟨b1,a1,n1,c1,b2,a2,n2,c2,rfl,h1,h2⟩:=h;rw [Ei];intro g hg;rcases List.mem_append.1 hg with hg|hg
 ·exact h1.span g hg
 ·exact h2.span g hg
theorem FracK.new {w w':World}{v:Value}{q:Rat}{lo:Nat}(h:FracK w.heap.size w' v q)(hl:lo≤w.heap.size):FracK lo w' v q∧∀ g∈Aloof.blks v,w.heap.size≤g∧g<w'.heap.size:=
 ⟨⟨h.1.mono hl,h.2⟩,h.1.span⟩
theorem Tl {ss:List Aloof.FSpec}(lo:Nat)(q:Rat)(h:Aloof.StableAll Ext ss):Aloof.StableAll Ext (.fresh (fun W v=>FracK lo W v q)::ss):=
 ⟨fun _ _ _ e h=>⟨h.1.ext e,fun g hg=>Nat.lt_of_lt_of_le (h.2 g hg) e.size⟩,h⟩
theorem Af9 (v1:Value)(x:Rat)(w:World)(hX1:nf x≤268435456)(h1:FracR w v1 x) :
  Calls Tryz.prog 120 #[v1] w fun e w'=>∃ v,e=.returned v∧Ext w w'∧FracK w.heap.size w' v x:=by
 have H1:=h1;obtain ⟨p1,q1,r1,s1,t1,u1,f1,g1,rfl⟩:=h1.shape;have bn1:nl x.num≤268435456:=nT (Nat.le_max_left _ _) hX1;have bd1:nl (x.den:Int)≤268435456:=nT (Nat.le_max_right _ _) hX1;have ho:=mK (fun w=>of_c 0 w (by omega) (by omega));have pzn:=mK (fun w v0 (h:IntR w (.agg #[.bool p1,.slice q1 r1 s1]) x.num) h0=>Si _ v0 _ w (nT bn1 (by decide)) h h0);have pz:=mK (fun w v0 (h:IntR w (.agg #[.bool t1,.slice u1 f1 g1]) (x.den:Int)) h0=>Si _ v0 _ w (nT bd1 (by decide)) h h0);replace H1:=mK H1;clear h1;go_enter Tryz.func120,Tryz.ntmps120;go_wp2_with fail;obtain ⟨wb,hwb⟩:=nmE ((w.alloc (.cells #[.bool p1,.slice q1 r1 s1,.bool t1,.slice u1 f1 g1] 54)).alloc (.cells #[.bool false,.slice none 0 0,.bool false,.slice none 0 0] 54));have hE:Ext w wb:=by rw [hwb];exact (((xR w).al _).al _)
 obtain ⟨c10,c11,c12,c13⟩:=ceX3 (aL20 hwb);have hB:=mK (fun W (e:Ext wb W)=>e.blk (aL21 hwb));have hsz:w.heap.size+2≤wb.heap.size:=by rw [hwb];simp
 replace H1:=mK (H1.out.ext hE);rw [←hwb];replace hE:=mK hE;clear hwb;refine (ho.out wb).mono ?_;rintro e w1 ⟨vo,rfl,hE1,hvo⟩;obtain ⟨ob,oa,on,oc,rfl⟩:=hvo.r.shape;have hE1':=mK hE1;have hvo':=mK hvo.r;clear hE1 hvo;go_wp2_with fail;obtain ⟨w2,hw2⟩:=nmE (w1.alloc (.cells #[.bool ob,.slice oa on oc] 52));rw [←hw2];have hE2:Ext wb w2:=by rw [hw2];exact hE1'.out.al _
 obtain ⟨o0,o1⟩:=ceX1 (aL10 hw2);have Ho:=mK (show IntR w2 (.agg #[.bool ob,.slice oa on oc]) 0 by rw [hw2];exact hvo'.out.ext ((xR _).al _));replace c10:=exL c10 hE2;replace c11:=exL c11 hE2;replace c12:=exL c12 hE2;replace c13:=exL c13 hE2;replace hB:=mK (fun W (e:Ext w2 W)=>hB.out W (hE2.trans e));replace H1:=mK (H1.out.ext hE2);replace hE:=mK (hE.out.trans hE2);replace hsz:w.heap.size+2≤w2.heap.size:=nT hsz hE2.size;clear hE1' hvo' hw2 hE2;apply Du [.val _,.val _,.val _,.fresh (fun W v=>IntO W (w.heap.size+2) v (x.num)),.val _,.val _,.val _,.fresh (fun W v=>IntO W (w.heap.size+2) v ((x.den:Int)))] (by kernel_rfl) (Av _ (Av _ (Av _ (Yd _ _ (Av _ (Av _ (Av _ (Yd _ _ trivial))))))));refine ⟨fun W hW _=>by go_simp;exact ⟨xR _,rfl⟩,?_⟩;refine ⟨fun W hW _=>by go_simp;exact ⟨xR _,rfl⟩,?_⟩;refine ⟨fun W hW _=>by go_simp;exact ⟨xR _,rfl⟩,?_⟩;refine ⟨fun W hW hF=>?g3,fun v103=>?_⟩
 case g3=>
  clear hF;go_simp;refine (pzn.out W _ (H1.out.num.ext hW) (Ho.out.ext hW)).mono ?_;rintro e w' ⟨v,rfl,h1,h2⟩;exact ⟨v,rfl,h1,h2.new (nT hsz hW.size)⟩
 refine ⟨fun W hW _=>by go_simp;exact ⟨xR _,rfl⟩,?_⟩;refine ⟨fun W hW _=>by go_simp;exact ⟨xR _,rfl⟩,?_⟩;refine ⟨fun W hW _=>by go_simp;exact ⟨xR _,rfl⟩,?_⟩;refine ⟨fun W hW hF=>?g7,fun v107=>fun W hW hF hA=>?fin⟩
 case g7=>
  clear hF;go_simp;refine (pz.out W _ (H1.out.den.ext hW) (Ho.out.ext hW)).mono ?_;rintro e w' ⟨v,rfl,h1,h2⟩;exact ⟨v,rfl,h1,h2.new (nT hsz hW.size)⟩
 case fin=>
  have d3:IntO W (w.heap.size+2) v103 (x.num):=(hF.2.1 rfl).1;have d7:IntO W (w.heap.size+2) v107 ((x.den:Int)):=(hF.1 rfl).1;have hap:=hA (3,.fresh (fun W v=>IntO W (w.heap.size+2) v (x.num)),v103) (7,.fresh (fun W v=>IntO W (w.heap.size+2) v ((x.den:Int))),v107) (by simp) (by simp) rfl rfl (by simp);obtain ⟨x1,x2,x3,x4,rfl⟩:=d3.r.shape;obtain ⟨y1,y2,y3,y4,rfl⟩:=d7.r.shape;have R:FracO W (w.heap.size+2) (.agg #[.bool x1,.slice x2 x3 x4,.bool y1,.slice y2 y3 y4]) (x):=⟨_,_,_,_,_,_,_,_,rfl,by exact d3,by exact d7⟩
  have hnd:=mK (nodup2 (b1:=x1) (b2:=y1) fun g h1 h2=>hap g h1 h2);have hBW:=hB.out W hW;have FR:=((R.row (g:=w.heap.size+1) (by omega) #[.bool x1,.slice x2 x3 x4,.bool y1,.slice y2 y3 y4]).mono (show w.heap.size≤w.heap.size+2 by omega))
  have FE:=mK ((hE.out.trans hW).row (show w.heap.size≤w.heap.size+1 by omega) #[.bool x1,.slice x2 x3 x4,.bool y1,.slice y2 y3 y4]);replace FR:=mK FR;clear hF hA hap R c10 c11 c12 c13 hW;go_simp;go_wp2_with (refine wpList_store_row rfl 54 (.tmp 2) (.tmp 13) rfl (w.heap.size+1) #[.bool x1,.slice x2 x3 x4,.bool y1,.slice y2 y3 y4] rfl rfl 54 _ hBW (by kernel_rfl) rfl (by kernel_rfl) ?_);exact bodyPost_ret (results_cell_row rfl _ _ (w.heap.size+1) 54 #[.bool x1,.slice x2 x3 x4,.bool y1,.slice y2 y3 y4] (0,0) _ rfl (setRow_heap _ _ _ _ _ _ hBW) Tryz.underlying54 rfl (by kernel_rfl)) rfl ⟨_,rfl,FE.out,FR.out,hnd.out⟩
theorem Dt {P:Program}(g k:Nat)(t:TypeId):∀ (vs:List Value) (i:Nat) (cur:Array Value) (w:World),w.heap[g]? = some (.cells cur t (0,0))→k+i+vs.length≤cur.size→(∀ v∈vs,v.oneCell'=true) →
  (storeCells ⟨g,k,none⟩ vs i).run P w=.ok () (w.setRow g (cur.toList.take (k+i)++vs++cur.toList.drop (k+i+vs.length)).toArray)
 | [],i,cur,w,hg,hl,_=>by
  have hlt:g<w.heap.size:=(Array.getElem?_eq_some_iff.1 hg).1
  have hv:w.heap[g]=.cells cur t (0,0):=(Array.getElem?_eq_some_iff.1 hg).2
  simp only [storeCells,List.append_nil,List.length_nil,Nat.add_zero,List.take_append_drop,Array.toArray_toList]
  show Result.ok () w=_
  congr 1
  unfold World.setRow
  cases w with
  | mk heap tape drawn os output=>
   congr 1
   apply Array.ext
   ·simp
   ·intro j h1 h2
    simp only [Array.getElem_modify]
    split
    ·rename_i hk;subst hk;simp at hv;simp [hv]
    ·rfl
 | v::rest,i,cur,w,hg,hl,h1=>by
  have hi:k+i<cur.size:=by simp at hl;omega
  have hadd:(⟨g,k,none⟩:Addr).add i=⟨g,k+i,none⟩:=by unfold Addr.add;split<;>simp_all
  have hcell:w.cell? ⟨g,k+i,none⟩=some cur[k+i]:=by simp [World.cell?,hg,hi]
  have hfro:w.frozen? ⟨g,k+i,none⟩=false:=by simp [World.frozen?,hg]
  have hst:(store ((⟨g,k,none⟩:Addr).add i) v).run P w=.ok () (w.setRow g (cur.setIfInBounds (k+i) v)):=by
   rw [hadd,run_store P w _ v _ (h1 v (by simp)),hcell];simp [hfro,setCell_eq_setRow w g (k+i) cur t (0,0) v hg]
  have ih:=Dt (P:=P) g k t rest (i+1) (cur.setIfInBounds (k+i) v) (w.setRow g (cur.setIfInBounds (k+i) v)) (setRow_heap w g cur _ t _ hg) (by simp at hl ⊢;omega) (fun x hx=>h1 x (by simp [hx]));simp only [storeCells,Sem.run_bind,hst,Result.andThen_ok,ih,setRow_setRow];congr 3
  have e1:(cur.setIfInBounds (k+i) v).toList.take (k+(i+1))=cur.toList.take (k+i)++[v]:=by
   rw [Array.toList_setIfInBounds,←Nat.add_assoc,List.take_succ_eq_append_getElem (by simpa using hi),List.take_set,List.set_eq_of_length_le (by rw [List.length_take];omega)];simp
  have e2:(cur.setIfInBounds (k+i) v).toList.drop (k+(i+1)+rest.length)=cur.toList.drop (k+i+(rest.length+1)):=by
   rw [Array.toList_setIfInBounds,List.drop_set_of_lt (by omega)];congr 1;omega
  rw [e1,e2];simp
theorem Me {P:Program}(w:World)(g k:Nat)(t ty:TypeId)(old new sub:Array Value)(hg:w.heap[g]? = some (.cells old t (0,0)))(hi:(P.info? ty).map (·.size)=some sub.size)
  (hk:k+sub.size≤old.size) (hn:new=(old.toList.take k++sub.toList++old.toList.drop (k+sub.size)).toArray) (h1:sub.all (·.oneCell')=true) :
  (storeVar ty ⟨g,k,none⟩ (.agg sub)).run P w=.ok () (w.setRow g new):=by
 have:=Dt (P:=P) g k t sub.toList 0 old w hg (by simp;omega) (fun v hv=>(Array.all_eq_true_iff_forall_mem.1 h1) v (by simpa using hv));cases hq:P.info? ty with
 | none=>simp [hq] at hi
 | some i=>
  have hs:sub.size=i.size:=by simp [hq] at hi;omega
  simp only [Nat.add_zero,Array.length_toList] at this;simp [storeVar,sizeOf,typeInfo,hq,Value.cells,hs,hn,this]
theorem Cu {P:Program}{ops:Array Oper}{rest:List Oper}{o:Oper}{a:Act}{w:World}{Q:Exit→Act→World→Prop}(hgd:o.guard=none)(ty:TypeId)(x y:Operand)(ho:o.op=.store ty x y)
  (g k:Nat) (hx:a.eval x=.pointer (some ⟨g,k,none⟩)) (t:TypeId) (old new sub:Array Value) (hy:a.eval y=.agg sub) (hg:w.heap[g]? = some (.cells old t (0,0))) (hi:(P.info? ty).map (·.size)=some sub.size)
  (hk:k+sub.size≤old.size) (hn:new=(old.toList.take k++sub.toList++old.toList.drop (k+sub.size)).toArray) (h1:sub.all (·.oneCell')=true)
  (h:wpList P ops Q rest (a.put o.dst undef) (w.setRow g new)):wpList P ops Q (o::rest) a w:=
 wpList_plain hgd fun _ hK=>by
  unfold Oper.wp execOp
  simp only [ho,hx,hy,Instr.storeAt,Instr.sureAddr,Sem.run_bind,Sem.run_pure,Result.andThen_ok,Me w g k t ty old new sub hg hi hk hn h1]
  exact hK _ _ h
theorem Lo {P:Program}{S:World→Value→Prop}{o:Oper}{a:Act}{W:World}{X:Prop}{c:Prop}{ic:Decidable c}(hw:c)(ty:TypeId)(x:Operand)(ho:o.op=.load ty x)
  (g k:Nat) (hx:a.eval x=.pointer (some ⟨g,k,none⟩)) (t:TypeId) (cs sub:Array Value) (fr:Nat×Nat) (d:TypeDesc) (hg:W.heap[g]? = some (.cells cs t fr)) (hs:cs.extract k (k+sub.size)=sub)
  (hu:P.underlying ty=some d) (hd:(match d with | .struct _ | .array _ _=>true|_=>false)=true) (hi:(P.info? ty).map (·.size)=some sub.size)
  (h:S W (.agg sub)):if c then Bu P S ((execOp a.eval o).run P W) else X:=by
 rw [if_pos hw];unfold execOp;simp only [ho,hx,Instr.loadAt,Instr.sureAddr,Sem.run_bind,Sem.run_pure,Result.andThen_ok,Ev W g k t ty cs sub fr d hg hs hu hd hi];exact h
structure PD where
 nm:ByteArray
 kd:Int
 p:Rat
 q:Rat
 co:Int
def PartR (w:World)(v:Value)(d:PD):Prop:=∃ b1 a1 n1 c1 b2 a2 n2 c2 b3 a3 n3 c3 b4 a4 n4 c4,v=.agg #[.string d.nm,.int .u8 d.kd,.bool b1,.slice a1 n1 c1,.bool b2,.slice a2 n2 c2,.bool b3,.slice a3 n3 c3,.bool b4,.slice a4 n4 c4,.int .i64 d.co]∧FracR w (.agg #[.bool b1,.slice a1 n1 c1,.bool b2,.slice a2 n2 c2]) d.p∧FracR w (.agg #[.bool b3,.slice a3 n3 c3,.bool b4,.slice a4 n4 c4]) d.q
def PartK (lo:Nat)(w:World)(v:Value)(d:PD):Prop:=∃ b1 a1 n1 c1 b2 a2 n2 c2 b3 a3 n3 c3 b4 a4 n4 c4,v=.agg #[.string d.nm,.int .u8 d.kd,.bool b1,.slice a1 n1 c1,.bool b2,.slice a2 n2 c2,.bool b3,.slice a3 n3 c3,.bool b4,.slice a4 n4 c4,.int .i64 d.co]∧FracO w lo (.agg #[.bool b1,.slice a1 n1 c1,.bool b2,.slice a2 n2 c2]) d.p∧FracO w lo (.agg #[.bool b3,.slice a3 n3 c3,.bool b4,.slice a4 n4 c4]) d.q∧(Aloof.blks v).Nodup
theorem PartR.ext {w w':World}{v:Value}{d:PD}(h:PartR w v d)(e:Ext w w'):PartR w' v d:=by
 obtain ⟨b1,a1,n1,c1,b2,a2,n2,c2,b3,a3,n3,c3,b4,a4,n4,c4,h0,h1,h2⟩:=h;exact ⟨_,_,_,_,_,_,_,_,_,_,_,_,_,_,_,_,h0,h1.ext e,h2.ext e⟩
theorem PartK.ext {lo:Nat}{w w':World}{v:Value}{d:PD}(h:PartK lo w v d)(e:Ext w w'):PartK lo w' v d:=by
 obtain ⟨b1,a1,n1,c1,b2,a2,n2,c2,b3,a3,n3,c3,b4,a4,n4,c4,h0,h1,h2,h3⟩:=h;exact ⟨_,_,_,_,_,_,_,_,_,_,_,_,_,_,_,_,h0,h1.ext e,h2.ext e,h3⟩
theorem PartK.r {lo:Nat}{w:World}{v:Value}{d:PD}(h:PartK lo w v d):PartR w v d:=by
 obtain ⟨b1,a1,n1,c1,b2,a2,n2,c2,b3,a3,n3,c3,b4,a4,n4,c4,h0,h1,h2,h3⟩:=h;exact ⟨_,_,_,_,_,_,_,_,_,_,_,_,_,_,_,_,h0,h1.r,h2.r⟩
theorem PartK.mono {lo lo':Nat}{w:World}{v:Value}{d:PD}(h:PartK lo w v d)(e:lo'≤lo):PartK lo' w v d:=by
 obtain ⟨b1,a1,n1,c1,b2,a2,n2,c2,b3,a3,n3,c3,b4,a4,n4,c4,h0,h1,h2,h3⟩:=h;exact ⟨_,_,_,_,_,_,_,_,_,_,_,_,_,_,_,_,h0,h1.mono e,h2.mono e,h3⟩
theorem Fj (s:ByteArray)(k co:Int)(b1:Bool)(a1:Option Addr)(n1 c1:Nat)(b2:Bool)(a2:Option Addr)(n2 c2:Nat)(b3:Bool)(a3:Option Addr)(n3 c3:Nat)(b4:Bool)(a4:Option Addr)(n4 c4:Nat) :
  Aloof.blks (.agg #[.string s,.int .u8 k,.bool b1,.slice a1 n1 c1,.bool b2,.slice a2 n2 c2,.bool b3,.slice a3 n3 c3,.bool b4,.slice a4 n4 c4,.int .i64 co])=Aloof.blks (.agg #[.bool b1,.slice a1 n1 c1,.bool b2,.slice a2 n2 c2])++Aloof.blks (.agg #[.bool b3,.slice a3 n3 c3,.bool b4,.slice a4 n4 c4]):=by
 cases a1<;>cases a2<;>cases a3<;>cases a4<;>rfl
theorem PartK.span {lo:Nat}{w:World}{v:Value}{d:PD}(h:PartK lo w v d):∀ g∈Aloof.blks v,lo≤g∧g<w.heap.size:=by
 obtain ⟨b1,a1,n1,c1,b2,a2,n2,c2,b3,a3,n3,c3,b4,a4,n4,c4,rfl,h1,h2,h3⟩:=h;rw [Fj];intro g hg;rcases List.mem_append.1 hg with hg|hg
 ·exact h1.span g hg
 ·exact h2.span g hg
theorem Qv (v:Value)(d:PD)(w:World)(hp:nf d.p≤268435456)(hq:nf d.q≤268435456)(h:PartR w v d) :
  Calls Tryz.prog 33 #[v] w fun e w'=>∃ v',e=.returned v'∧Ext w w'∧PartK w.heap.size w' v' d:=by
 obtain ⟨b1,a1,n1,c1,b2,a2,n2,c2,b3,a3,n3,c3,b4,a4,n4,c4,rfl,h1,h2⟩:=h;have T1:=mK (fun W (e:Ext w W)=>Af9 _ d.p W hp (h1.ext e));have T2:=mK (fun W (e:Ext w W)=>Af9 _ d.q W hq (h2.ext e));clear h1 h2 hp hq;go_enter Tryz.func33,Tryz.ntmps33;go_wp2_with fail;obtain ⟨wb,hwb⟩:=nmE ((w.alloc (.cells #[.string d.nm,.int .u8 d.kd,.bool b1,.slice a1 n1 c1,.bool b2,.slice a2 n2 c2,.bool b3,.slice a3 n3 c3,.bool b4,.slice a4 n4 c4,.int .i64 d.co] 58)).alloc (.cells #[.string ⟨#[]⟩,.int .u8 0,.bool false,.slice none 0 0,.bool false,.slice none 0 0,.bool false,.slice none 0 0,.bool false,.slice none 0 0,.int .i64 0] 58));have hE:=mK (aLe2 hwb);have z0:=mK (aL20 hwb);have zB:=mK (aL21 hwb);have hlo:w.heap.size+2=wb.heap.size:=by rw [hwb];simp
 rw [←hwb];clear hwb;apply Du [.val (.pointer (some ⟨w.heap.size,1,none⟩)),.val (.pointer (some ⟨w.heap.size,2,none⟩)),.val (.agg #[.bool b1,.slice a1 n1 c1,.bool b2,.slice a2 n2 c2]),.fresh (fun W v=>FracK (w.heap.size+2) W v d.p),.val (.pointer (some ⟨w.heap.size,1,none⟩)),.val (.pointer (some ⟨w.heap.size,6,none⟩)),.val (.agg #[.bool b3,.slice a3 n3 c3,.bool b4,.slice a4 n4 c4]),.fresh (fun W v=>FracK (w.heap.size+2) W v d.q),.val (.pointer (some ⟨w.heap.size,1,none⟩)),.val (.pointer (some ⟨w.heap.size,2,none⟩))] (by kernel_rfl) (Av _ (Av _ (Av _ (Tl _ _ (Av _ (Av _ (Av _ (Tl _ _ (Av _ (Av _ trivial))))))))));iterate 2 (refine ⟨fun W hW _=>by go_simp;first|exact ⟨xR _,rfl⟩|exact xR _,?_⟩)
 refine ⟨?l1,?_⟩
 case l1=>
  intro W hW hF;have hr:=hW.blk z0.out;with_reducible refine Lo ?zhw 54 (.tmp 4) ?zho w.heap.size 2 ?zhx 58 _ #[.bool b1,.slice a1 n1 c1,.bool b2,.slice a2 n2 c2] (0,0) _ hr ?zhs Tryz.underlying54 ?zhd ?zhi ?zh
  case zhw=>kernel_rfl
  case zho=>rfl
  case zhx=>kernel_rfl
  case zhs=>rfl
  case zhd=>rfl
  case zhi=>kernel_rfl
  case zh=>exact ⟨xR _,rfl⟩
 refine ⟨fun W hW _=>?g2,fun x2=>?_⟩
 case g2=>
  go_simp;refine (T1.out W (hE.out.trans hW)).mono ?_;rintro e w' ⟨v,rfl,h1,h2⟩;exact ⟨v,rfl,h1,h2.new (by have:=hW.size;omega)⟩
 iterate 2 (refine ⟨fun W hW _=>by go_simp;first|exact ⟨xR _,rfl⟩|exact xR _,?_⟩)
 refine ⟨?l2,?_⟩
 case l2=>
  intro W hW hF;have hr:=hW.blk z0.out;with_reducible refine Lo ?zhw 54 (.tmp 8) ?zho w.heap.size 6 ?zhx 58 _ #[.bool b3,.slice a3 n3 c3,.bool b4,.slice a4 n4 c4] (0,0) _ hr ?zhs Tryz.underlying54 ?zhd ?zhi ?zh
  case zhw=>kernel_rfl
  case zho=>rfl
  case zhx=>kernel_rfl
  case zhs=>rfl
  case zhd=>rfl
  case zhi=>kernel_rfl
  case zh=>exact ⟨xR _,rfl⟩
 refine ⟨fun W hW _=>?g5,fun x5=>?_⟩
 case g5=>
  go_simp;refine (T2.out W (hE.out.trans hW)).mono ?_;rintro e w' ⟨v,rfl,h1,h2⟩;exact ⟨v,rfl,h1,h2.new (by have:=hW.size;omega)⟩
 iterate 2 (refine ⟨fun W hW _=>by go_simp;first|exact ⟨xR _,rfl⟩|exact xR _,?_⟩)
 intro W hW hF hA;have d2:FracK (w.heap.size+2) W x2 d.p:=(hF.2.1 rfl).1;have d5:FracK (w.heap.size+2) W x5 d.q:=(hF.1 rfl).1;have hap:=hA (3,.fresh (fun W v=>FracK (w.heap.size+2) W v d.p),x2) (7,.fresh (fun W v=>FracK (w.heap.size+2) W v d.q),x5) (by simp) (by simp) rfl rfl (by simp);obtain ⟨⟨b1',a1',n1',c1',b2',a2',n2',c2',rfl,p1,p2⟩,p3⟩:=d2;obtain ⟨⟨b3',a3',n3',c3',b4',a4',n4',c4',rfl,q1,q2⟩,q3⟩:=d5
 have hnd:(Aloof.blks (.agg #[.string d.nm,.int .u8 d.kd,.bool b1',.slice a1' n1' c1',.bool b2',.slice a2' n2' c2',.bool b3',.slice a3' n3' c3',.bool b4',.slice a4' n4' c4',.int .i64 d.co])).Nodup:=by
  rw [Fj];exact List.nodup_append.2 ⟨p3,q3,fun a h1 b h2 e=>hap a h1 (e ▸ h2)⟩
 have z0W:=mK (hW.blk z0.out);have zBW:=mK (hW.blk zB.out);have P1:FracO W (w.heap.size+2) (.agg #[.bool b1',.slice a1' n1' c1',.bool b2',.slice a2' n2' c2']) d.p:=⟨_,_,_,_,_,_,_,_,rfl,p1,p2⟩
 have Q1:FracO W (w.heap.size+2) (.agg #[.bool b3',.slice a3' n3' c3',.bool b4',.slice a4' n4' c4']) d.q:=⟨_,_,_,_,_,_,_,_,rfl,q1,q2⟩
 obtain ⟨W1,hW1⟩:=nmE (W.setRow w.heap.size #[.string d.nm,.int .u8 d.kd,.bool b1',.slice a1' n1' c1',.bool b2',.slice a2' n2' c2',.bool b3,.slice a3 n3 c3,.bool b4,.slice a4 n4 c4,.int .i64 d.co]);obtain ⟨W2,hW2⟩:=nmE (W1.setRow w.heap.size #[.string d.nm,.int .u8 d.kd,.bool b1',.slice a1' n1' c1',.bool b2',.slice a2' n2' c2',.bool b3',.slice a3' n3' c3',.bool b4',.slice a4' n4' c4',.int .i64 d.co]);have z1:W1.heap[w.heap.size]? = some (.cells #[.string d.nm,.int .u8 d.kd,.bool b1',.slice a1' n1' c1',.bool b2',.slice a2' n2' c2',.bool b3,.slice a3 n3 c3,.bool b4,.slice a4 n4 c4,.int .i64 d.co] 58 (0,0)):=by rw [hW1];exact setRow_heap _ _ _ _ _ _ z0W.out
 have z2:W2.heap[w.heap.size]? = some (.cells #[.string d.nm,.int .u8 d.kd,.bool b1',.slice a1' n1' c1',.bool b2',.slice a2' n2' c2',.bool b3',.slice a3' n3' c3',.bool b4',.slice a4' n4' c4',.int .i64 d.co] 58 (0,0)):=by rw [hW2];exact setRow_heap _ _ _ _ _ _ z1
 have zB2:W2.heap[w.heap.size+1]? = some (.cells #[.string ⟨#[]⟩,.int .u8 0,.bool false,.slice none 0 0,.bool false,.slice none 0 0,.bool false,.slice none 0 0,.bool false,.slice none 0 0,.int .i64 0] 58 (0,0)):=by rw [hW2,setRow_other _ _ _ _ (by omega),hW1,setRow_other _ _ _ _ (by omega)];exact zBW.out
 have FE:=mK (show Ext w (W2.setRow (w.heap.size+1) #[.string d.nm,.int .u8 d.kd,.bool b1',.slice a1' n1' c1',.bool b2',.slice a2' n2' c2',.bool b3',.slice a3' n3' c3',.bool b4',.slice a4' n4' c4',.int .i64 d.co]) by rw [hW2,hW1];exact (((hE.out.trans hW).row (nR _) _).row (nR _) _).row (show w.heap.size≤w.heap.size+1 by omega) _);have FP:=mK (show FracO (W2.setRow (w.heap.size+1) #[.string d.nm,.int .u8 d.kd,.bool b1',.slice a1' n1' c1',.bool b2',.slice a2' n2' c2',.bool b3',.slice a3' n3' c3',.bool b4',.slice a4' n4' c4',.int .i64 d.co]) w.heap.size (.agg #[.bool b1',.slice a1' n1' c1',.bool b2',.slice a2' n2' c2']) d.p by rw [hW2,hW1];exact (((P1.row (by omega) _).row (by omega) _).row (by omega) _).mono (by omega));have FQ:=mK (show FracO (W2.setRow (w.heap.size+1) #[.string d.nm,.int .u8 d.kd,.bool b1',.slice a1' n1' c1',.bool b2',.slice a2' n2' c2',.bool b3',.slice a3' n3' c3',.bool b4',.slice a4' n4' c4',.int .i64 d.co]) w.heap.size (.agg #[.bool b3',.slice a3' n3' c3',.bool b4',.slice a4' n4' c4']) d.q by rw [hW2,hW1];exact (((Q1.row (by omega) _).row (by omega) _).row (by omega) _).mono (by omega));replace hnd:=mK hnd;replace z1:=mK z1;replace z2:=mK z2;replace zB2:=mK zB2;replace hW1:=mK hW1;replace hW2:=mK hW2;clear hF hA hap p1 p2 p3 q1 q2 q3 P1 Q1 hW hlo;go_simp
 go_wp2_with (first
  | (refine Cu (by rfl) 54 (.tmp 12) (.tmp 6) rfl w.heap.size 2 rfl 58 _ #[.string d.nm,.int .u8 d.kd,.bool b1',.slice a1' n1' c1',.bool b2',.slice a2' n2' c2',.bool b3,.slice a3 n3 c3,.bool b4,.slice a4 n4 c4,.int .i64 d.co] #[.bool b1',.slice a1' n1' c1',.bool b2',.slice a2' n2' c2'] rfl z0W.out (by kernel_rfl) (by simp) rfl (by kernel_rfl) ?_;rw [←hW1.out])
  | (refine Cu (by rfl) 54 (.tmp 14) (.tmp 10) rfl w.heap.size 6 rfl 58 _ #[.string d.nm,.int .u8 d.kd,.bool b1',.slice a1' n1' c1',.bool b2',.slice a2' n2' c2',.bool b3',.slice a3' n3' c3',.bool b4',.slice a4' n4' c4',.int .i64 d.co] #[.bool b3',.slice a3' n3' c3',.bool b4',.slice a4' n4' c4'] rfl z1.out (by kernel_rfl) (by simp) rfl (by kernel_rfl) ?_;rw [←hW2.out])
  | (refine wpList_load_row (by rfl) 58 (.tmp 1) rfl w.heap.size rfl 58 #[.string d.nm,.int .u8 d.kd,.bool b1',.slice a1' n1' c1',.bool b2',.slice a2' n2' c2',.bool b3',.slice a3' n3' c3',.bool b4',.slice a4' n4' c4',.int .i64 d.co] (0,0) _ z2.out Tryz.underlying58 rfl (by kernel_rfl) ?_)
  | (refine wpList_store_row rfl 58 (.tmp 2) (.tmp 15) rfl (w.heap.size+1) #[.string d.nm,.int .u8 d.kd,.bool b1',.slice a1' n1' c1',.bool b2',.slice a2' n2' c2',.bool b3',.slice a3' n3' c3',.bool b4',.slice a4' n4' c4',.int .i64 d.co] rfl rfl 58 _ zB2.out (by kernel_rfl) rfl (by kernel_rfl) ?_))
 exact bodyPost_ret (results_cell_row rfl _ _ (w.heap.size+1) 58 #[.string d.nm,.int .u8 d.kd,.bool b1',.slice a1' n1' c1',.bool b2',.slice a2' n2' c2',.bool b3',.slice a3' n3' c3',.bool b4',.slice a4' n4' c4',.int .i64 d.co] (0,0) _ rfl (setRow_heap _ _ _ _ _ _ zB2.out) Tryz.underlying58 rfl (by kernel_rfl)) rfl ⟨_,rfl,FE.out,_,_,_,_,_,_,_,_,_,_,_,_,_,_,_,_,rfl,FP.out,FQ.out,hnd.out⟩
end Go.Proofs.YteogdoglboddhaaGreatDoor
