/-
  exact: Common. exact: Check, of whatever limbs. ratio: turned, and what a fraction in memory is. ratio: Lowest. ratio: Times, Plus, Minus, Cmp, Turned, Copy: printed by tools/gen_ratio.py. ratio: Turned, Copy: printed by tools/gen_ratio.py. polestarref01: trim, signed, cmp. polestarref01: add, sub. polestarref01: mul, times.
-/
import Derived.Test.YteogdoglboddhaaGreatDoorPAC
import Derived.Deep.LoopGhost
import Derived.LoopN
import Derived.Test.YteogdoglboddhaaGreatDoorPAA
import Derived.Test.YteogdoglboddhaaGreatDoorPAB
set_option maxHeartbeats 6400000
namespace Go.Proofs.YteogdoglboddhaaGreatDoor
set_option maxRecDepth 100000
open Go Go.RowKit Go.Proofs
theorem Aip (v:Value)(s:Value)(b:Bool)(X:Int)(w:World)(hX:nl X≤1073741824)(hv:v=.agg #[.bool b,s])(h:IntR w v X) :
  Calls Tryz.prog 208 #[.bool false,s] w fun e w'=>∃ b' a' n' c',e=.returned (.agg #[.bool b',.slice a' n' c'])∧IntO w' w.heap.size (.agg #[.bool b',.slice a' n' c']) X.natAbs∧Ext w w':=by
 obtain ⟨s1,h1,a,c,rfl,_,r⟩:=h;rw [h1] at hv;simp only [Value.agg.injEq,Array.mk.injEq,List.cons.injEq,and_true] at hv;obtain ⟨_,rfl⟩:=hv;refine (Aiq false a _ c w (Ap _) (by unfold nl at *;omega) r).mono ?_;rintro e w' ⟨v,rfl,hi,hE⟩;have e1:sg false (val (lim X.natAbs))=(X.natAbs:Int):=by unfold sg;simp [Aj]
 rw [e1] at hi;obtain ⟨b',a',n',c',rfl⟩:=hi.r.shape;exact ⟨_,_,_,_,rfl,hi,hE⟩
theorem IntO.row_type {w:World}{base g T:Nat}{fr:Nat×Nat}{v:Value}{x:Int}{old:Array Value}(h:IntO w base v x)(hg:w.heap[g]? = some (.cells old T fr))(hT:T≠136)(cs:Array Value):IntO (w.setRow g cs) base v x:=by
 obtain ⟨s,h1,h2⟩:=h;refine ⟨s,h1,?_⟩;obtain ⟨h3,h4⟩:=h2;refine ⟨h3,?_⟩;rcases h4 with h4|⟨k,cap,cur,a1,a2,a3,a4⟩
 ·exact .inl h4
 ·refine .inr ⟨k,cap,cur,a1,a2,?_,a4⟩
  have hne:k≠g:=by
   intro e;subst e;rw [a3] at hg;simp only [Option.some.injEq,Obj.cells.injEq] at hg;exact hT hg.2.1.symm
  rw [setRow_other _ _ _ _ hne];exact a3
theorem Dm {w:World}{g T:Nat}{c:Array Value}(h:w.heap[g]? = some (.cells c T (0,0)))(k:Nat):w.frozen? ⟨g,k,none⟩=false:=by
 simp [World.frozen?,h]
theorem Kv {w:World}{g T:Nat}{fr:Nat×Nat}{x y u v:Value}(h:w.heap[g]? = some (.cells #[x,y] T fr)):(w.setCell ⟨g,0,none⟩ u).setCell ⟨g,1,none⟩ v=w.setRow g #[u,v]:=by
 have e:((w.setCell ⟨g,0,none⟩ u).setCell ⟨g,1,none⟩ v).heap=(w.setRow g #[u,v]).heap:=by
  refine Array.ext_getElem? fun k=>?_;unfold World.setCell World.setRow;simp only [Array.getElem?_modify];by_cases hk:g=k
  ·subst hk
   simp [h]
  ·simp [hk]
 unfold World.setCell World.setRow at *;simpa using e
theorem Ac {w:World}{g T:Nat}{b:Bool}{a:Option Addr}{n c:Nat}(h:w.heap[g]? = some (.cells #[.bool b,.slice a n c] T (0,0))):w.cell? ⟨g,0,none⟩=some (.bool b)∧w.cell? ⟨g,1,none⟩=some (.slice a n c):=by
 constructor<;>simp [World.cell?,h]
def ComI (w:World)(g5 g6:Nat)(G:Nat)(k:Nat)(wr:World):Prop:=
 ∃ (A:Nat) (ba bb:Bool) (aa ab:Option Addr) (na nb ca cb:Nat),wr.heap[g5]? = some (.cells #[.bool ba,.slice aa na ca] 52 (0,0))∧wr.heap[g6]? = some (.cells #[.bool bb,.slice ab nb cb] 52 (0,0)) ∧
  IntO wr (w.heap.size+3) (.agg #[.bool ba,.slice aa na ca]) (A:Nat)∧IntO wr (w.heap.size+3) (.agg #[.bool bb,.slice ab nb cb]) (k:Nat)∧Nat.gcd A k=G∧nl (A:Nat)≤1073741824∧nl (k:Nat)≤1073741824∧Ext w wr∧wr.heap[w.heap.size+2]? = some (.cells #[.bool false,.slice none 0 0] 52 (0,0))
theorem Afu {w:World}{b:Bool}{a:Option Addr}{n c k:Nat}(h:IntR w (.agg #[.bool b,.slice a n c]) (k:Nat)):n=(lim k).length:=by
 obtain ⟨s,h1,a',c',rfl,_,_⟩:=h;simp only [Value.agg.injEq,Array.mk.injEq,List.cons.injEq,Value.slice.injEq,and_true] at h1;simpa using h1.2.2.1
theorem Xt (v1 v2:Value)(X Y:Int)(w:World)(hX:nl X≤1073741824)(hY:nl Y≤1073741824)(h1:IntR w v1 X)(h2:IntR w v2 Y) :
  Calls Tryz.prog 162 #[v1,v2] w fun e w'=>∃ v,e=.returned v∧Ext w w'∧IntO w' w.heap.size v (Int.gcd X Y:Nat):=by
 have H1:=mK h1;have H2:=mK h2;obtain ⟨bx,a1,n1,c1,rfl⟩:=h1.shape;obtain ⟨bY,a2,n2,c2,rfl⟩:=h2.shape;have o1:=mK (fun w h=>Aip (.agg #[.bool bx,.slice a1 n1 c1]) _ bx X w hX rfl h);have o2:=mK (fun w h=>Aip (.agg #[.bool bY,.slice a2 n2 c2]) _ bY Y w hY rfl h);clear h1 h2;go_enter Tryz.func162,Tryz.ntmps162;go_wp2_with fail;obtain ⟨wb,hwb⟩:=nmE (((w.alloc (.cells #[.bool bx,.slice a1 n1 c1] 52)).alloc (.cells #[.bool bY,.slice a2 n2 c2] 52)).alloc (.cells #[.bool false,.slice none 0 0] 52));have hE:=aLe3 hwb;have h01:wb.cell? ⟨w.heap.size,1,none⟩=some (.slice a1 n1 c1):=by rw [hwb];go_simp
 have h11:wb.cell? ⟨w.heap.size+1,1,none⟩=some (.slice a2 n2 c2):=by rw [hwb];go_simp
 have hB:=mK (aL32 hwb);have hsz:w.heap.size+3≤wb.heap.size:=by rw [hwb];simp
 have H1b:=mK (H1.out.ext hE);have H2b:=mK (H2.out.ext hE);rw [←hwb];replace hE:=mK hE;clear hwb H1 H2;have k01:=fun w' (h:Ext wb w')=>h.cell h01;have k11:=fun w' (h:Ext wb w')=>h.cell h11
 apply Hg [.val _,.val _,.pred (fun W v=>IntO W (w.heap.size+3) v X.natAbs),.val _,.val _,.pred (fun W v=>IntO W (w.heap.size+3) v Y.natAbs),.fresh (VarAt (w.heap.size+3) #[.bool false,.slice none 0 0] 52),.fresh (VarAt (w.heap.size+3) #[.bool false,.slice none 0 0] 52)] (by kernel_rfl)
  (Fresh.stable_vals _ (Fresh.stable_vals _ (Xh _ _ (Fresh.stable_vals _ (Fresh.stable_vals _ (Xh _ _ (Oq _ _ _ (Oq _ _ _ trivial))))))))
 ·iterate 2 (refine ⟨fun W hW _=>by go_simp;exact ⟨xR _,rfl⟩,?_⟩)
  refine ⟨fun W hW hF=>?g2,fun v2=>?_⟩
  case g2=>
   go_simp;refine (o1.out W (H1b.out.ext hW)).mono ?_;rintro e w' ⟨b',a',n',c',rfl,h1,h2⟩;exact ⟨_,rfl,h2,h1.mono (nT hsz hW.size)⟩
  iterate 2 (refine ⟨fun W hW _=>by go_simp;exact ⟨xR _,rfl⟩,?_⟩)
  refine ⟨fun W hW hF=>?g5,fun v5=>?_⟩
  case g5=>
   go_simp;refine (o2.out W (H2b.out.ext hW)).mono ?_;rintro e w' ⟨b',a',n',c',rfl,h1,h2⟩;exact ⟨_,rfl,h2,h1.mono (nT hsz hW.size)⟩
  refine ⟨fun W hW hF=>?g6,fun v6=>⟨fun W hW hF=>?g7,fun v7=>fun W hW hF hAp=>?fin⟩⟩
  case g6=>
   have hnv:=mK (Ga (b:=w.heap.size+3) (cs:=#[.bool false,.slice none 0 0]) (T:=52) W (nT hsz hW.size));go_simp;exact ⟨hnv.out.1,hnv.out.2.1,hnv.out.2.2⟩
  case g7=>
   have hnv:=mK (Ga (b:=w.heap.size+3) (cs:=#[.bool false,.slice none 0 0]) (T:=52) W (nT hsz hW.size));go_simp;exact ⟨hnv.out.1,hnv.out.2.1,hnv.out.2.2⟩
  case fin=>
   obtain ⟨f7,f6,f5,f2,-⟩:=hF;obtain ⟨⟨g6,rfl,hg6b,hg6⟩,_⟩:=f7 rfl;obtain ⟨⟨g5,rfl,hg5b,hg5⟩,_⟩:=f6 rfl;have hI5:IntO W (w.heap.size+3) v5 Y.natAbs:=f5 rfl;have hI2:IntO W (w.heap.size+3) v2 X.natAbs:=f2 rfl
   have hne:g5≠g6:=by
    intro e;exact hAp _ _ (List.mem_cons_self ..) (List.mem_cons_of_mem _ (List.mem_cons_self ..)) rfl rfl (by simp) g6 (Abt g6) (by rw [←e];exact Abt g5)
   obtain ⟨b2,x2,y2,z2,rfl⟩:=hI2.r.shape;obtain ⟨b5,x5,y5,z5,rfl⟩:=hI5.r.shape;have hrows:=Dq W g5 g6 #[.bool b2,.slice x2 y2 z2] #[.bool b5,.slice x5 y5 z5] _ _ _ hne hg5 hg6;have J2:=(hI2.row_type hg5 (by decide) #[.bool b2,.slice x2 y2 z2]).row_type hrows.2.2 (by decide) #[.bool b5,.slice x5 y5 z5];have J5:=(hI5.row_type hg5 (by decide) #[.bool b2,.slice x2 y2 z2]).row_type hrows.2.2 (by decide) #[.bool b5,.slice x5 y5 z5];have hEW:=(((hE.out.trans hW).row (show w.heap.size≤g5 by omega) #[.bool b2,.slice x2 y2 z2])).row (show w.heap.size≤g6 by omega) #[.bool b5,.slice x5 y5 z5]
   have hBW:((W.setRow g5 #[.bool b2,.slice x2 y2 z2]).setRow g6 #[.bool b5,.slice x5 y5 z5]).heap[w.heap.size+2]? = some (.cells #[.bool false,.slice none 0 0] 52 (0,0)):=by
    rw [setRow_other _ _ _ _ (by omega),setRow_other _ _ _ _ (by omega)];exact hW.blk hB.out
   have hst:ComI w g5 g6 (Int.gcd X Y) Y.natAbs ((W.setRow g5 #[.bool b2,.slice x2 y2 z2]).setRow g6 #[.bool b5,.slice x5 y5 z5]):=
    ⟨X.natAbs,b2,b5,x2,x5,y2,y5,z2,z5,hrows.1,hrows.2.1,J2,J5,rfl,by unfold nl at *;simpa using hX,by unfold nl at *;simpa using hY,hEW,hBW⟩
   replace hst:=mK hst;replace hrows:=mK hrows;replace hg5:=mK hg5;replace hne:=mK hne;clear J2 J5 hEW hBW hI2 hI5 f7 f6 f5 f2 hAp hg6 hW k01 k11 o1 o2 h01 h11 hE hB H1b H2b;go_simp
   go_wp2_with (first
    | (refine wpList_store_row rfl 52 (.tmp 5) (.tmp 11) rfl g5 #[.bool b2,.slice x2 y2 z2] rfl rfl 52 _ hg5.out (by kernel_rfl) rfl (by kernel_rfl) ?_)
    | (refine wpList_store_row rfl 52 (.tmp 6) (.tmp 14) rfl g6 #[.bool b5,.slice x5 y5 z5] rfl rfl 52 _ hrows.out.2.2 (by kernel_rfl) rfl (by kernel_rfl) ?_))
   clear hrows hg5;go_loopg [] Y.natAbs (fun k wr=>ComI w g5 g6 (Int.gcd X Y) k wr)
   case atStart=>exact hst.out
   case round=>
    clear hst;obtain ⟨A,ba,bb,aa,ab,na,nb,ca,cb,hA,hBb,iA,iB,hG,lA,lB,hEr,hBr⟩:=hrel;have cA:=Ac hA;have cB:=Ac hBb;have hnb:=Afu iB.r;obtain ⟨b',hb'⟩:∃ b',b'=w.heap.size:=⟨_,rfl⟩
    by_cases h0:gk=0
    ·subst h0
     rw [Al] at hnb;subst hnb
     have hfin:IntO (wr.setRow (w.heap.size+2) #[.bool ba,.slice aa na ca]) w.heap.size (.agg #[.bool ba,.slice aa na ca]) (Int.gcd X Y:Nat):=by
      rw [←hG,Nat.gcd_zero_right];exact (iA.row_type hBr (by decide) _).mono (by omega)
     have hEf:=mK (hEr.row (show w.heap.size≤w.heap.size+2 by omega) #[.bool ba,.slice aa na ca]);replace hfin:=mK hfin;replace hBr:=mK hBr
     go_wp2_with (first
      | (refine wpList_store_row rfl 52 (.tmp 4) (.tmp 27) rfl (w.heap.size+2) #[.bool ba,.slice aa na ca] rfl rfl 52 _ hBr.out (by kernel_rfl) rfl (by kernel_rfl) ?_))
     exact bodyPost_ret (results_cell_row rfl _ _ (w.heap.size+2) 52 #[.bool ba,.slice aa na ca] (0,0) _ rfl (setRow_heap _ _ _ _ _ _ hBr.out) Tryz.underlying52 rfl (by kernel_rfl)) rfl ⟨_,rfl,hEf.out,hfin.out⟩
    ·have hpos:0<nb:=by
      rw [hnb,Az h0];simp
     have hdv:=Af6 _ _ (A:Int) (gk:Int) wr lA lB (by omega) iA.r iB.r;subst hnb;replace hdv:=mK hdv;replace hEr:=mK hEr;replace hBr:=mK hBr;replace iB:=mK iB;replace hA:=mK hA;replace hBb:=mK hBb;clear iA;go_wp2_with fail;refine hdv.out.mono ?_;rintro e w5 ⟨q,r,rfl,hE5,hq,hr⟩;obtain ⟨bq,aq,nq,cq,rfl⟩:=hq.r.shape;obtain ⟨br,ar,nr,cr,rfl⟩:=hr.r.shape;replace hr:=mK hr;have hE5':=mK hE5;clear hq hdv cA cB hE5;go_wp2_with fail;obtain ⟨w6,hw6⟩:=nmE ((w5.alloc (.cells #[.bool bq,.slice aq nq cq] 52)).alloc (.cells #[.bool br,.slice ar nr cr] 52));have hE6:Ext wr w6:=by rw [hw6];exact (hE5'.out.al _).al _
     have hE56:=aLe2 hw6;have hb8:=aL21 hw6;have hb5:=mK (hE6.blk hA.out);have hb6:=hE6.blk hBb.out;have cB:=Ac hb6;have c8:=Ac hb8;rw [←hw6];replace hw6:=mK hw6;replace hb6:=mK hb6;clear hb8;have hgl:g6<wr.heap.size:=(Array.getElem?_eq_some_iff.1 hBb.out).1;have cA:=Ac hb5.out;obtain ⟨cA1,cA2⟩:=cA;obtain ⟨cB1,cB2⟩:=cB;obtain ⟨c81,c82⟩:=c8;have d1:g6≠g5:=Ne.symm hne.out;have d2:w5.heap.size+1≠g5:=by have:=hE5'.out.size;have:g5<wr.heap.size:=(Array.getElem?_eq_some_iff.1 hA.out).1;omega
     have hne':=hne.out;have f50:=Dm hb5.out 0;have f51:=Dm hb5.out 1;have f60:=Dm hb6.out 0;have f61:=Dm hb6.out 1;go_region;rw [Kv hb5.out,Kv ((setRow_other _ _ _ _ d1).trans hb6.out)];clear cA1 cA2 cB1 cB2 c81 c82 f50 f51 f60 f61 d1 d2
     have hrr:IntO w6 (w.heap.size+3) (.agg #[.bool br,.slice ar nr cr]) ((A%gk:Nat):Int):=by
      have:=(hr.out.ext hE56).mono (show w.heap.size+3≤wr.heap.size by omega);rwa [Int.ofNat_tmod]
     have hBB:IntO w6 (w.heap.size+3) (.agg #[.bool bb,.slice ab (lim gk).length cb]) (gk:Int):=iB.out.ext hE6;have hrows:=Dq w6 g5 g6 #[.bool bb,.slice ab (lim gk).length cb] #[.bool br,.slice ar nr cr] _ _ _ hne.out hb5.out hb6.out;have J2:=(hBB.row_type hb5.out (by decide) #[.bool bb,.slice ab (lim gk).length cb]).row_type hrows.2.2 (by decide) #[.bool br,.slice ar nr cr];have J5:=(hrr.row_type hb5.out (by decide) #[.bool bb,.slice ab (lim gk).length cb]).row_type hrows.2.2 (by decide) #[.bool br,.slice ar nr cr];have hEF:=(((hEr.out.trans hE6).row (show w.heap.size≤g5 by omega) #[.bool bb,.slice ab (lim gk).length cb])).row (show w.heap.size≤g6 by omega) #[.bool br,.slice ar nr cr]
     have hBW:((w6.setRow g5 #[.bool bb,.slice ab (lim gk).length cb]).setRow g6 #[.bool br,.slice ar nr cr]).heap[w.heap.size+2]? = some (.cells #[.bool false,.slice none 0 0] 52 (0,0)):=by
      rw [setRow_other _ _ _ _ (by omega),setRow_other _ _ _ _ (by omega)];exact hE6.blk hBr.out
     have hlt:A%gk<gk:=Nat.mod_lt _ (by omega);have hlr:nl ((A%gk:Nat):Int)≤1073741824:=nT (An (show ((A%gk:Nat):Int).natAbs≤(gk:Int).natAbs by rw [Int.natAbs_natCast,Int.natAbs_natCast];omega)) lB;have hdr:=(xR ((w6.setRow g5 #[.bool bb,.slice ab (lim gk).length cb]).setRow g6 #[.bool br,.slice ar nr cr])).dr
     have hst:ComI w g5 g6 (Int.gcd X Y) (A%gk) ((w6.setRow g5 #[.bool bb,.slice ab (lim gk).length cb]).setRow g6 #[.bool br,.slice ar nr cr]).drew:=
      ⟨gk,bb,br,ab,ar,(lim gk).length,nr,cb,cr,hrows.1,hrows.2.1,J2.ext hdr,J5.ext hdr,by rw [Nat.gcd_comm,←Nat.gcd_rec,Nat.gcd_comm];exact hG,lB,hlr,hEF.dr,hBW⟩
     clear J2 J5 hEF hBW hBB hrr hdr hrows hr hb5 hb6 iB hA hBb hE6 hE56 hlr;replace hst:=mK hst;replace hlt:=mK hlt;go_wp2_with fail;go_roundg (A%gk)
     case measure=>exact hlt.out
     case rel=>exact hst.out
def AnyR (w:World)(v:Value)(b:Bool)(l:List Nat):Prop:=∃ a c,v=.agg #[.bool b,.slice a l.length c]∧OkL l∧l.length≤c∧Row w a (limV l)
def Cg (b:Bool)(l:List Nat):Bool:=decide (l.length≤2048)&&(decide (l=[])||decide (l.getLastD 0≠0))&&(decide (l≠[]) || !b)
theorem AnyR.ext {w w':World}{v:Value}{b:Bool}{l:List Nat}(h:AnyR w v b l)(e:Ext w w'):AnyR w' v b l:=by
 obtain ⟨a,c,h1,h2,hc,h3⟩:=h;exact ⟨a,c,h1,h2,hc,h3.ext e⟩
theorem Afq {l:List Nat}(okl:OkL l)(h:l.getLastD 0≠0):val l≠0:=by
 intro h0;have e:=Om okl (.inr h);rw [h0,Al] at e;subst e;exact h rfl
theorem Iy {w:World}{v:Value}{b:Bool}{l:List Nat}(h:AnyR w v b l)(g:Cg b l=true):IntR w v (sg b (val l))∧nl (sg b (val l))≤2048:=by
 obtain ⟨a,c,rfl,okl,hc,r⟩:=h;unfold Cg at g;simp only [Bool.and_eq_true,Bool.or_eq_true,decide_eq_true_eq,Bool.not_eq_true'] at g;obtain ⟨⟨g1,g2⟩,g3⟩:=g;have e:=Om okl g2;have en:(sg b (val l)).natAbs=val l:=by unfold sg;split<;>simp
 have es:decide (sg b (val l)<0)=b:=by
  cases b
  ·unfold sg;simp
  ·have h0:l≠[]:=by simpa using g3
   have h1:val l≠0:=Afq okl (g2.resolve_left h0);unfold sg;simp;omega
 unfold nl;rw [en,e];refine ⟨⟨_,by rw [es],?_⟩,g1⟩;rw [en,e];exact ⟨a,c,rfl,hc,r⟩
theorem Afx {X:Int}(h:nl X≤2048):Cg (decide (X<0)) (lim X.natAbs)=true:=by
 unfold Cg nl at *;by_cases h0:X=0
 ·subst h0
  simp [Al]
 ·have hn:X.natAbs≠0:=by omega
  have h1:lim X.natAbs≠[]:=by rw [Az hn];simp
  have h2:=Ul hn
  have h3:(lim X.natAbs).getLastD 0=(lim X.natAbs).getD ((lim X.natAbs).length-1) 0:=by
   rw [List.getLastD_eq_getLast?,List.getLast?_eq_getElem?,List.getD_eq_getElem?_getD]
  rw [h3];simp only [Bool.and_eq_true,Bool.or_eq_true,decide_eq_true_eq];exact ⟨⟨h,.inr (by omega)⟩,.inl h1⟩
theorem Abr (v:Value)(b:Bool)(l:List Nat)(w:World)(hl:l.length≤4294967296)(h:AnyR w v b l) :
  Calls Tryz.prog 159 #[v] w fun e w'=>e=.returned (.int .i64 (if Cg b l then 0 else 1))∧Ext w w':=by
 obtain ⟨a,c,rfl,okl,_,r⟩:=h;by_cases h1:2048<l.length
 ·have hg:Cg b l=false:=by unfold Cg;simp;omega
  rw [hg];clear hg r;go_enter Tryz.func159,Tryz.ntmps159;go_wp2_with fail;go_ret;exact ⟨rfl,(xR _).al _⟩
 ·by_cases h2:l=[]
  ·subst h2
   clear r h1 hl;cases b
   ·have hg:Cg false []=true:=rfl
    rw [hg];clear hg;go_enter Tryz.func159,Tryz.ntmps159;go_wp2_with fail;go_ret;exact ⟨rfl,(xR _).al _⟩
   ·have hg:Cg true []=false:=rfl
    rw [hg];clear hg;go_enter Tryz.func159,Tryz.ntmps159;go_wp2_with fail;go_ret;exact ⟨rfl,(xR _).al _⟩
  ·obtain ⟨g,off,ha,hc⟩:=r
   have h0:0<l.length:=by cases l with|nil=>exact absurd rfl h2|cons x y=>simp
   have hcell:w.cell? ⟨g,off+(l.length-1),none⟩=some (.int .u32 (l.getD (l.length-1) 0:Nat)):=by
    rw [hc _ (by rw [Ah];omega),Bs _ _ (by omega)]
   have hgl:=Ag okl (l.length-1);have hi:((l.length:Int)-1)=((l.length-1:Nat):Int):=by omega
   obtain rfl:=ha (by intro e;have:=congrArg List.length e;rw [Ah] at this;simp at this;exact h2 this)
   have hlt:(w.heap.size=g)=False:=by
    have:=Cl hcell;simp at this;exact eq_false (by omega)
   have hgd:Cg b l=decide (l.getD (l.length-1) 0≠0):=by
    have h3:l.getLastD 0=l.getD (l.length-1) 0:=by
     rw [List.getLastD_eq_getLast?,List.getLast?_eq_getElem?,List.getD_eq_getElem?_getD]
    unfold Cg;rw [h3];simp [h2];omega
   rw [hgd];clear hgd hc;generalize l.getD (l.length-1) 0=x at *;have hcell2:(w.alloc (.cells #[.bool b,.slice (some ⟨g,off,none⟩) l.length c] 52)).cell? ⟨g,off+(l.length-1),none⟩=some (.int .u32 (x:Nat)):=((xR w).al _).cell hcell;clear hcell ha hlt;by_cases hx:x=0
   ·subst hx
    go_enter Tryz.func159,Tryz.ntmps159;go_wp2_with fail;go_ret;exact ⟨rfl,(xR _).al _⟩
   ·have hx2:((x:Int)==0)=false:=by rw [beq_eq_false_iff_ne];omega
    rw [if_pos (show decide (x≠0)=true by simpa using hx)];go_enter Tryz.func159,Tryz.ntmps159;go_wp2_with fail;go_ret;exact ⟨rfl,(xR _).al _⟩
def FracR (w:World)(v:Value)(q:Rat):Prop:=
 ∃ b1 a1 n1 c1 b2 a2 n2 c2,v=.agg #[.bool b1,.slice a1 n1 c1,.bool b2,.slice a2 n2 c2]∧IntR w (.agg #[.bool b1,.slice a1 n1 c1]) q.num∧IntR w (.agg #[.bool b2,.slice a2 n2 c2]) (q.den:Int)
def FracO (w:World)(base:Nat)(v:Value)(q:Rat):Prop:=
 ∃ b1 a1 n1 c1 b2 a2 n2 c2,v=.agg #[.bool b1,.slice a1 n1 c1,.bool b2,.slice a2 n2 c2]∧IntO w base (.agg #[.bool b1,.slice a1 n1 c1]) q.num∧IntO w base (.agg #[.bool b2,.slice a2 n2 c2]) (q.den:Int)
theorem FracO.r {w:World}{base:Nat}{v:Value}{q:Rat}(h:FracO w base v q):FracR w v q:=by
 obtain ⟨b1,a1,n1,c1,b2,a2,n2,c2,h1,h2,h3⟩:=h;exact ⟨b1,a1,n1,c1,b2,a2,n2,c2,h1,h2.r,h3.r⟩
theorem FracR.ext {w w':World}{v:Value}{q:Rat}(h:FracR w v q)(e:Ext w w'):FracR w' v q:=by
 obtain ⟨b1,a1,n1,c1,b2,a2,n2,c2,h1,h2,h3⟩:=h;exact ⟨b1,a1,n1,c1,b2,a2,n2,c2,h1,h2.ext e,h3.ext e⟩
theorem FracO.ext {w w':World}{base:Nat}{v:Value}{q:Rat}(h:FracO w base v q)(e:Ext w w'):FracO w' base v q:=by
 obtain ⟨b1,a1,n1,c1,b2,a2,n2,c2,h1,h2,h3⟩:=h;exact ⟨b1,a1,n1,c1,b2,a2,n2,c2,h1,h2.ext e,h3.ext e⟩
theorem FracO.mono {w:World}{base base':Nat}{v:Value}{q:Rat}(h:FracO w base v q)(e:base'≤base):FracO w base' v q:=by
 obtain ⟨b1,a1,n1,c1,b2,a2,n2,c2,h1,h2,h3⟩:=h;exact ⟨b1,a1,n1,c1,b2,a2,n2,c2,h1,h2.mono e,h3.mono e⟩
theorem FracO.row {w:World}{base g:Nat}{v:Value}{q:Rat}(h:FracO w base v q)(hg:g<base)(cs:Array Value):FracO (w.setRow g cs) base v q:=by
 obtain ⟨b1,a1,n1,c1,b2,a2,n2,c2,h1,h2,h3⟩:=h;exact ⟨b1,a1,n1,c1,b2,a2,n2,c2,h1,h2.row hg cs,h3.row hg cs⟩
theorem FracR.shape {w:World}{v:Value}{q:Rat}(h:FracR w v q):∃ b1 a1 n1 c1 b2 a2 n2 c2,v=.agg #[.bool b1,.slice a1 n1 c1,.bool b2,.slice a2 n2 c2]:=by
 obtain ⟨b1,a1,n1,c1,b2,a2,n2,c2,h1,h2,h3⟩:=h;exact ⟨b1,a1,n1,c1,b2,a2,n2,c2,h1⟩
theorem FracR.num {w:World}{b1 b2:Bool}{a1 a2:Option Addr}{n1 c1 n2 c2:Nat}{q:Rat}(h:FracR w (.agg #[.bool b1,.slice a1 n1 c1,.bool b2,.slice a2 n2 c2]) q):IntR w (.agg #[.bool b1,.slice a1 n1 c1]) q.num:=by
 obtain ⟨x1,x2,x3,x4,x5,x6,x7,x8,h1,h2,h3⟩:=h;simp only [Value.agg.injEq,Array.mk.injEq,List.cons.injEq,and_true] at h1;obtain ⟨h4,h5,h6,h7⟩:=h1;rw [h4,h5];exact h2
theorem FracR.den {w:World}{b1 b2:Bool}{a1 a2:Option Addr}{n1 c1 n2 c2:Nat}{q:Rat}(h:FracR w (.agg #[.bool b1,.slice a1 n1 c1,.bool b2,.slice a2 n2 c2]) q):IntR w (.agg #[.bool b2,.slice a2 n2 c2]) (q.den:Int):=by
 obtain ⟨x1,x2,x3,x4,x5,x6,x7,x8,h1,h2,h3⟩:=h;simp only [Value.agg.injEq,Array.mk.injEq,List.cons.injEq,and_true] at h1;obtain ⟨h4,h5,h6,h7⟩:=h1;rw [h6,h7];exact h3
def nf (q:Rat):Nat:=max (nl q.num) (nl (q.den:Int))
theorem Kq (v:Value)(X:Int)(w:World)(hX:nl X≤1073741824)(h:IntR w v X) :
  Calls Tryz.prog 211 #[v] w fun e w'=>∃ v,e=.returned v∧Ext w w'∧IntO w' w.heap.size v (-X):=by
 have H1:=h;obtain ⟨b,a,n,c,rfl⟩:=h.shape;have h0:nl 0≤1073741824:=by unfold nl;simp [Al]
 have hm:=fun v0 w (h1:IntR w v0 0) h2=>Abj v0 (.agg #[.bool b,.slice a n c]) 0 X w h0 hX h1 h2;have ho:=fun w=>of_c 0 w (by omega) (by omega);rw [show (0:Int)-X = -X by omega] at hm;replace hm:=mK hm;replace ho:=mK ho;replace H1:=mK H1;clear h;go_enter Tryz.func211,Tryz.ntmps211;go_wp2_with fail;obtain ⟨wb,hwb⟩:=nmE ((w.alloc (.cells #[.bool b,.slice a n c] 52)).alloc (.cells #[.bool false,.slice none 0 0] 52));have hE:=aLe2 hwb;obtain ⟨c0,c1⟩:=ceX1 (aL20 hwb);have hB:=mK (fun W (e:Ext wb W)=>e.blk (aL21 hwb));have hsz:w.heap.size+2≤wb.heap.size:=by rw [hwb];simp
 have H1b:=mK (H1.out.ext hE);rw [←hwb];replace hE:=mK hE;clear hwb H1;apply Ad [.pred (fun W v=>IntO W (w.heap.size+2) v 0),.val _,.pred (fun W v=>IntO W (w.heap.size+2) v (-X))] (by kernel_rfl) (Bq _ _ (stable_vals _ (Bq _ _ trivial)));refine ⟨fun W hW _=>?g0,fun v0=>?_⟩
 case g0=>
  go_simp;refine (ho.out W).mono ?_;rintro e w' ⟨v,rfl,h1,h2⟩;exact ⟨v,rfl,h1,h2.mono (nT hsz hW.size)⟩
 refine ⟨fun W hW _=>by go_simp;exact ⟨xR _,rfl⟩,?_⟩;refine ⟨fun W hW hF=>?g2,fun v2=>fun W hW hF=>?fin⟩
 case g2=>
  have h0:Hid (IntO W (w.heap.size+2) v0 0):=hF.1 (by kernel_rfl);clear hF;go_simp;refine (hm.out _ W h0.out.r (H1b.out.ext hW)).mono ?_;rintro e w' ⟨v,rfl,h1,h2⟩;exact ⟨v,rfl,h1,h2.mono (nT hsz hW.size)⟩
 case fin=>
  have h2:IntO W (w.heap.size+2) v2 (-X):=hF.1 rfl;obtain ⟨nb,a2,n2,c2,rfl⟩:=h2.r.shape;have hBW:=hB.out W hW;have hR:IntO (W.setRow (w.heap.size+1) #[.bool nb,.slice a2 n2 c2]) w.heap.size (.agg #[.bool nb,.slice a2 n2 c2]) (-X):=(h2.row (by omega) _).mono (by omega);have hEW:=mK ((hE.out.trans hW).row (show w.heap.size≤w.heap.size+1 by omega) #[.bool nb,.slice a2 n2 c2]);replace hR:=mK hR;clear h2 hF c0 c1;go_simp;go_wp2_with (refine wpList_store_row rfl 52 (.tmp 2) (.tmp 5) rfl (w.heap.size+1) #[.bool nb,.slice a2 n2 c2] rfl rfl 52 _ hBW (by kernel_rfl) rfl (by kernel_rfl) ?_);exact bodyPost_ret (results_cell_row rfl _ _ (w.heap.size+1) 52 #[.bool nb,.slice a2 n2 c2] (0,0) _ rfl (setRow_heap _ _ _ _ _ _ hBW) Tryz.underlying52 rfl (by kernel_rfl)) rfl ⟨_,rfl,hEW.out,hR.out⟩
theorem Ok (n d:Int):(Rat.divInt n d).num=if d<0 then -(n.tdiv (Int.gcd n d:Nat)) else if d=0 then 0 else n.tdiv (Int.gcd n d:Nat):=by
 have hdv:((Int.gcd n d:Nat):Int) ∣ n:=Int.gcd_dvd_left ..;rw [Rat.num_divInt,Int.gcd_comm d n,Int.tdiv_eq_ediv_of_dvd hdv];rcases Int.lt_trichotomy d 0 with h|h|h
 ·rw [if_pos h,Int.sign_eq_neg_one_of_neg h,Int.neg_mul,Int.one_mul,Int.neg_ediv_of_dvd hdv]
 ·subst h
  simp
 ·rw [if_neg (by omega),if_neg (by omega),Int.sign_eq_one_of_pos h,Int.one_mul]
theorem Ol (n d:Int)(h0:d≠0):((Rat.divInt n d).den:Int)=if d<0 then -(d.tdiv (Int.gcd n d:Nat)) else d.tdiv (Int.gcd n d:Nat):=by
 have hdv:((Int.gcd n d:Nat):Int) ∣ d:=Int.gcd_dvd_right ..;rw [Rat.den_divInt,if_neg h0,Int.gcd_comm d n,Int.tdiv_eq_ediv_of_dvd hdv,Int.natCast_ediv];split
 ·rw [←Int.neg_ediv_of_dvd hdv]
  congr 1;omega
 ·congr 1
  omega
theorem Ii (n:Int)(g:Nat):nl (n.tdiv g)≤nl n:=by
 unfold nl;refine An ?_;rw [Int.natAbs_tdiv];exact Nat.div_le_self _ _
theorem tdiv_neg (Y:Int)(g:Nat)(h0:g≠0)(h:(g:Int) ∣ Y):Y.tdiv (g:Nat)<0↔Y<0:=by
 obtain ⟨k,rfl⟩:=h;rw [Int.mul_tdiv_cancel_left _ (by omega)];have hp:(0:Int)<g:=by omega
 constructor
 ·intro h
  exact Int.mul_neg_of_pos_of_neg hp h
 ·intro h
  rcases Int.lt_or_le k 0 with h1|h1
  ·exact h1
  ·have:=Int.mul_nonneg (Int.le_of_lt hp) h1
   omega
structure Keep (w:World) (K:World→Value→Int→Prop):Prop where
 ext:∀ {W W' v x},K W v x→Ext W W'→K W' v x
 row:∀ {W v x g old T fr} (cs:Array Value),K W v x→W.heap[g]? = some (.cells old T fr)→T≠136→w.heap.size≤g→K (W.setRow g cs) v x
 r:∀ {W v x},K W v x→IntR W v x
 o:∀ {W v x},IntO W w.heap.size v x→K W v x
theorem Ajd (w:World)(base:Nat)(hb:base≤w.heap.size):Keep w (fun W v x=>IntO W base v x):=
 ⟨fun h e=>h.ext e,fun cs h hg hT _=>h.row_type hg hT cs,fun h=>h.r,fun h=>h.mono hb⟩
theorem Afi (K:World→Value→Int→Prop)(v1 v2:Value)(X Y:Int)(w:World)(hK:Keep w K)(hX:nl X≤1073741824)(hY:nl Y≤1073741824)(hY0:Y≠0)(h1:K w v1 X)(h2:K w v2 Y) :
  Calls Tryz.prog 164 #[v1,v2] w fun e w'=>∃ b1 a1 n1 c1 b2 a2 n2 c2,e=.returned (.agg #[.bool b1,.slice a1 n1 c1,.bool b2,.slice a2 n2 c2])∧Ext w w' ∧
   K w' (.agg #[.bool b1,.slice a1 n1 c1]) (Rat.divInt X Y).num∧K w' (.agg #[.bool b2,.slice a2 n2 c2]) ((Rat.divInt X Y).den:Int):=by
 have H1:=h1;have H2:=h2;obtain ⟨b1,a1,n1,m1,rfl⟩:=(hK.r h1).shape;obtain ⟨b2,a2,n2,m2,rfl⟩:=(hK.r h2).shape;have en:=Ok X Y;have ed:=Ol X Y hY0;rw [if_neg hY0] at en;have hcm:=fun w h1 h2=>Xt (.agg #[.bool b1,.slice a1 n1 m1]) (.agg #[.bool b2,.slice a2 n2 m2]) X Y w hX hY h1 h2
 have hg0:Int.gcd X Y≠0:=by
  intro h;exact hY0 (Int.gcd_eq_zero_iff.1 h).2
 have hgl:nl (Int.gcd X Y:Nat)≤1073741824:=by
  refine nT (An ?_) hY;rw [Int.natAbs_natCast];exact Nat.le_of_dvd (by omega) (by simpa using (Int.natAbs_dvd_natAbs.2 (Int.gcd_dvd_right X Y)))
 have hd1:(X.tdiv (Int.gcd X Y:Nat))=X∧(Y.tdiv (Int.gcd X Y:Nat))=Y∨Int.gcd X Y≠1:=by
  by_cases h:Int.gcd X Y=1
  ·left;rw [h];simp
  ·exact .inr h
 have hX2:=nT (Ii X (Int.gcd X Y)) hX;have hY2:=nT (Ii Y (Int.gcd X Y)) hY
 have hYz:Y.tdiv (Int.gcd X Y:Nat)≠0:=by
  intro h;have e:=Int.tdiv_mul_cancel (Int.gcd_dvd_right X Y);rw [h] at e;omega
 have hs2:=tdiv_neg Y (Int.gcd X Y) hg0 (Int.gcd_dvd_right X Y);generalize Int.gcd X Y=G at *;generalize (Rat.divInt X Y).num=RN at *;generalize ((Rat.divInt X Y).den:Int)=RD at *;obtain ⟨S,hS⟩:=nmE (((G:Int)-1).sign);have h01:nl 1≤1073741824:=by unfold nl;simp;rw [Iu (by omega) (by omega)];simp
 have hof:=mK (fun w=>of_c 1 w (by omega) (by omega));have hcmp:=fun v1 v2 w h1 h2=>Xu v1 v2 (G:Int) 1 w hgl h01 h1 h2;rw [←hS] at hcmp;replace hcm:=mK hcm;replace hcmp:=mK hcmp;replace hS:=mK hS;replace H1:=mK H1;replace H2:=mK H2;replace en:=mK en;replace ed:=mK ed;replace hd1:=mK hd1;replace hs2:=mK hs2;replace hYz:=mK hYz;replace hgl:=mK hgl;replace hX2:=mK hX2;replace hY2:=mK hY2;clear h1 h2 h01;go_enter Tryz.func164,Tryz.ntmps164;go_wp2_with fail;obtain ⟨wb,hwb⟩:=nmE (((w.alloc (.cells #[.bool b1,.slice a1 n1 m1] 52)).alloc (.cells #[.bool b2,.slice a2 n2 m2] 52)).alloc (.cells #[.bool false,.slice none 0 0,.bool false,.slice none 0 0] 54));rw [←hwb];have hE:=aLe3 hwb;have hB0:=aL30 hwb;have hB1:=aL31 hwb;have hB2:=aL32 hwb;have hsz:w.heap.size+3≤wb.heap.size:=by rw [hwb];simp
 replace H1:=mK (hK.ext H1.out hE);replace H2:=mK (hK.ext H2.out hE);clear hwb;refine (hcm.out wb (hK.r H1.out) (hK.r H2.out)).mono ?_;rintro e w1 ⟨vg,rfl,hE1,hg⟩;obtain ⟨bg,ag,ng,mg,rfl⟩:=hg.r.shape;replace hg:=mK hg;have hszb:=hsz;replace hE:=mK (hE.trans hE1);replace H1:=mK (hK.ext H1.out hE1);replace H2:=mK (hK.ext H2.out hE1);replace hB0:=mK (hE1.blk hB0);replace hB1:=mK (hE1.blk hB1);replace hB2:=mK (hE1.blk hB2);replace hsz:w.heap.size+3≤w1.heap.size:=nT hsz hE1.size;clear hE1 hcm;go_wp2_with fail;obtain ⟨w2,hw2⟩:=nmE (w1.alloc (.cells #[.bool bg,.slice ag ng mg] 52));rw [←hw2];have hE2:=aLe1 hw2;have hBg:=aL10 hw2;replace hg:=mK ((hg.out.ext hE2).mono hszb);replace hE:=mK (hE.out.trans hE2);replace H1:=mK (hK.ext H1.out hE2);replace H2:=mK (hK.ext H2.out hE2);replace hB0:=mK (hE2.blk hB0.out);replace hB1:=mK (hE2.blk hB1.out);replace hB2:=mK (hE2.blk hB2.out);have k0:∀ W,Ext w2 W→W.cell? ⟨w1.heap.size,0,none⟩=some (.bool bg):=fun W e=>e.cell (Ac hBg).1;have k1:∀ W,Ext w2 W→W.cell? ⟨w1.heap.size,1,none⟩=some (.slice ag ng mg):=fun W e=>e.cell (Ac hBg).2;replace hBg:=mK hBg;have hsz2:w1.heap.size+1≤w2.heap.size:=by rw [hw2];simp
 clear hw2 hE2;apply Ad [.val _,.pred (fun W v=>IntO W (w1.heap.size+1) v 1),.val (.int .i64 S)] (by kernel_rfl) (stable_vals _ (Bq _ _ (stable_vals _ trivial)));refine ⟨fun W hW _=>by go_simp;exact ⟨xR _,rfl⟩,?_⟩;refine ⟨fun W hW _=>?g1,fun v1=>?_⟩
 case g1=>
  go_simp;refine (hof.out W).mono ?_;rintro e w' ⟨v,rfl,h1,h2⟩;exact ⟨v,rfl,h1,h2.mono (nT hsz2 hW.size)⟩
 refine ⟨fun W hW hF=>?g2,fun W hW _=>?fin⟩
 case g2=>
  have h0:Hid (IntO W (w1.heap.size+1) v1 1):=hF.1 (by kernel_rfl);clear hF;go_simp;refine (hcmp.out _ _ W (hg.out.r.ext hW) h0.out.r).mono ?_;rintro e w' ⟨rfl,hE⟩;exact ⟨rfl,hE⟩
 case fin=>
  have E2:=hE.out.trans hW;have J1:=hK.ext H1.out hW;have J2:=hK.ext H2.out hW;have r0:=hW.blk hB0.out;have r1:=hW.blk hB1.out;have r2:=hW.blk hB2.out;have rg:=hW.blk hBg.out;have Jg:=hg.out.ext hW;clear hE H1 H2 hB0 hB1 hB2 hBg k0 k1 hsz2 hg hW;by_cases hG:G=1
  ·have hS0:S=0:=by rw [hS.out,hG];rfl
   subst hS0;obtain ⟨e1,e2⟩:=hd1.out.resolve_right (by omega);rw [e1] at en;rw [e2] at ed;have JN:=mK J1;have JD:=J2;clear rg Jg J1 J2;have hsg:=mK (Mb _ (Y) W (hK.r JD) hY);have c1:=Ac r1;replace r0:=mK r0;replace r1:=mK r1;replace r2:=mK r2;replace E2:=mK E2;replace JD:=mK JD;(go_simp;go_wp2_with fail);refine hsg.out.mono ?_;rintro e w7 ⟨rfl,hE7⟩;have q0:=hE7.blk r0.out;have q1:=hE7.blk r1.out;have q2:=hE7.blk r2.out;have JN:=hK.ext JN.out hE7;have JD:=hK.ext JD.out hE7;have E7:=E2.out.trans hE7;clear r0 r1 r2 E2 hE7 c1 hsg;by_cases hneg:Y<0
   ·have hsn:(Y).sign = -1:=Int.sign_eq_neg_one_of_neg ((Iff.refl (Y<0)).2 hneg)
    rw [hsn];have en:=en.out;have ed:=ed.out;rw [if_pos hneg] at en ed;subst en;subst ed;have c0:=Ac q0;have c1:=Ac q1;have t1:=mK (fun W e=>Kq _ (X) W hX ((hK.r JN).ext (w':=W) e));have t2:=mK (fun W e=>Kq _ (Y) W hY ((hK.r JD).ext (w':=W) e));replace q0:=mK q0;replace q1:=mK q1;replace q2:=mK q2;replace E7:=mK E7;clear JN JD;replace hneg:=mK hneg;go_wp2_with fail;have k00:=fun W (e:Ext w7 W)=>e.cell c0.1;have k01:=fun W (e:Ext w7 W)=>e.cell c0.2;have k10:=fun W (e:Ext w7 W)=>e.cell c1.1;have k11:=fun W (e:Ext w7 W)=>e.cell c1.2;have hz7:w.heap.size+3≤w7.heap.size:=(Array.getElem?_eq_some_iff.1 q2.out).1;apply Ad [.val _,.pred (fun W v=>IntO W (w.heap.size+3) v (-(X))),.val _,.pred (fun W v=>IntO W (w.heap.size+3) v (-(Y)))] (by kernel_rfl) (stable_vals _ (Bq _ _ (stable_vals _ (Bq _ _ trivial))));refine ⟨fun W hW _=>by go_simp;exact ⟨xR _,rfl⟩,?_⟩;refine ⟨fun W hW _=>?h1,fun v1=>?_⟩
    case h1=>
     go_simp;refine (t1.out W hW).mono ?_;rintro e w' ⟨v,rfl,h1,h2⟩;exact ⟨v,rfl,h1,h2.mono (nT hz7 hW.size)⟩
    refine ⟨fun W hW _=>by go_simp;exact ⟨xR _,rfl⟩,?_⟩;refine ⟨fun W hW _=>?h3,fun v3=>fun W hW hF=>?fin⟩
    case h3=>
     go_simp;refine (t2.out W hW).mono ?_;rintro e w' ⟨v,rfl,h1,h2⟩;exact ⟨v,rfl,h1,h2.mono (nT hz7 hW.size)⟩
    case fin=>
     have J3:IntO W (w.heap.size+3) v3 (-(Y)):=hF.1 rfl;have J1:IntO W (w.heap.size+3) v1 (-(X)):=hF.2.1 rfl;obtain ⟨x1,x2,x3,x4,rfl⟩:=J1.r.shape;obtain ⟨y1,y2,y3,y4,rfl⟩:=J3.r.shape;have p0:=hW.blk q0.out;have p1:=hW.blk q1.out;have p2:=hW.blk q2.out;have hrows:=Dq W w.heap.size (w.heap.size+1) #[.bool x1,.slice x2 x3 x4] #[.bool y1,.slice y2 y3 y4] _ _ _ (by omega) p0 p1
     have p3:((W.setRow w.heap.size #[.bool x1,.slice x2 x3 x4]).setRow (w.heap.size+1) #[.bool y1,.slice y2 y3 y4]).heap[w.heap.size+2]? = some (.cells #[.bool false,.slice none 0 0,.bool false,.slice none 0 0] 54 (0,0)):=by
      rw [setRow_other _ _ _ _ (by omega),setRow_other _ _ _ _ (by omega)];exact p2
     have d0:=Ac hrows.1;have d1:=Ac hrows.2.1;have F1:=hK.o (((((J1.row (g:=w.heap.size) (by omega) #[.bool x1,.slice x2 x3 x4]).row (g:=w.heap.size+1) (by omega) #[.bool y1,.slice y2 y3 y4]).row (g:=w.heap.size+2) (by omega) #[.bool x1,.slice x2 x3 x4,.bool y1,.slice y2 y3 y4])).mono (show w.heap.size≤w.heap.size+3 by omega));have F3:=hK.o (((((J3.row (g:=w.heap.size) (by omega) #[.bool x1,.slice x2 x3 x4]).row (g:=w.heap.size+1) (by omega) #[.bool y1,.slice y2 y3 y4]).row (g:=w.heap.size+2) (by omega) #[.bool x1,.slice x2 x3 x4,.bool y1,.slice y2 y3 y4])).mono (show w.heap.size≤w.heap.size+3 by omega));have FE:=mK ((((E7.out.trans hW).row (show w.heap.size≤w.heap.size by omega) #[.bool x1,.slice x2 x3 x4]).row (show w.heap.size≤w.heap.size+1 by omega) #[.bool y1,.slice y2 y3 y4]).row (show w.heap.size≤w.heap.size+2 by omega) #[.bool x1,.slice x2 x3 x4,.bool y1,.slice y2 y3 y4]);replace p0:=mK p0;replace p3:=mK p3;replace hrows:=mK hrows;replace F1:=mK F1;replace F3:=mK F3;clear J1 J3 hF k00 k01 k10 k11 p1 p2 c0 c1 hW;go_simp
     go_wp2_with (first
      | (refine wpList_store_row rfl 52 (.tmp 2) (.tmp 29) rfl w.heap.size #[.bool x1,.slice x2 x3 x4] rfl rfl 52 _ p0.out (by kernel_rfl) rfl (by kernel_rfl) ?_)
      | (refine wpList_store_row rfl 52 (.tmp 3) (.tmp 31) rfl (w.heap.size+1) #[.bool y1,.slice y2 y3 y4] rfl rfl 52 _ hrows.out.2.2 (by kernel_rfl) rfl (by kernel_rfl) ?_)
      | (refine wpList_store_row rfl 54 (.tmp 4) (.tmp 34) rfl (w.heap.size+2) #[.bool x1,.slice x2 x3 x4,.bool y1,.slice y2 y3 y4] rfl rfl 54 _ p3.out (by kernel_rfl) rfl (by kernel_rfl) ?_))
     exact bodyPost_ret (results_cell_row rfl _ _ (w.heap.size+2) 54 #[.bool x1,.slice x2 x3 x4,.bool y1,.slice y2 y3 y4] (0,0) _ rfl (setRow_heap _ _ _ _ _ _ p3.out) Tryz.underlying54 rfl (by kernel_rfl)) rfl ⟨_,_,_,_,_,_,_,_,rfl,FE.out,F1.out,F3.out⟩
   ·have hsn:(Y).sign=1:=Int.sign_eq_one_of_pos (by have:=mt (Iff.refl (Y<0)).1 hneg;have:=hY0;omega)
    rw [hsn];have en:=en.out;have ed:=ed.out;rw [if_neg hneg] at en ed;subst en;subst ed;have c0:=Ac q0;have c1:=Ac q1;have F1:=hK.row (g:=w.heap.size+2) #[.bool b1,.slice a1 n1 m1,.bool b2,.slice a2 n2 m2] JN q2 (by decide) (by omega);have F3:=hK.row (g:=w.heap.size+2) #[.bool b1,.slice a1 n1 m1,.bool b2,.slice a2 n2 m2] JD q2 (by decide) (by omega);have FE:=mK (E7.row (show w.heap.size≤w.heap.size+2 by omega) #[.bool b1,.slice a1 n1 m1,.bool b2,.slice a2 n2 m2]);replace q0:=mK q0;replace q1:=mK q1;replace q2:=mK q2;replace E7:=mK E7;replace F1:=mK F1;replace F3:=mK F3;clear JN JD;replace hneg:=mK hneg;go_wp2_with (refine wpList_store_row rfl 54 (.tmp 4) (.tmp 34) rfl (w.heap.size+2) #[.bool b1,.slice a1 n1 m1,.bool b2,.slice a2 n2 m2] rfl rfl 54 _ q2.out (by kernel_rfl) rfl (by kernel_rfl) ?_);exact bodyPost_ret (results_cell_row rfl _ _ (w.heap.size+2) 54 #[.bool b1,.slice a1 n1 m1,.bool b2,.slice a2 n2 m2] (0,0) _ rfl (setRow_heap _ _ _ _ _ _ q2.out) Tryz.underlying54 rfl (by kernel_rfl)) rfl ⟨_,_,_,_,_,_,_,_,rfl,FE.out,F1.out,F3.out⟩
  ·have hS0:(S==0)=false:=by
    rw [hS.out,beq_eq_false_iff_ne];intro h;have:=Int.sign_eq_zero_iff_zero.1 h;omega
   have c0:=Ac r0;have c1:=Ac r1;have cg:=Ac rg;have hdv:=mK (Af6 _ _ X (G:Int) W hX hgl.out (by omega) (hK.r J1) Jg.r);replace r0:=mK r0;replace r1:=mK r1;replace r2:=mK r2;replace rg:=mK rg;replace E2:=mK E2;replace J1:=mK J1;replace J2:=mK J2;replace Jg:=mK Jg;go_simp;go_wp2_with fail;refine hdv.out.mono ?_;rintro e w3 ⟨q,r,rfl,hE3,hq,_⟩;obtain ⟨x1,x2,x3,x4,rfl⟩:=hq.r.shape;have p0:=hE3.blk r0.out;have p1:=hE3.blk r1.out;have p2:=hE3.blk r2.out;have pg:=hE3.blk rg.out;have s0:=setRow_heap _ _ _ #[.bool x1,.slice x2 x3 x4] _ _ p0;have s1:=(setRow_other w3 w.heap.size _ #[.bool x1,.slice x2 x3 x4] (show w.heap.size+1≠w.heap.size by omega)).trans p1;have s2:=(setRow_other w3 w.heap.size _ #[.bool x1,.slice x2 x3 x4] (show w.heap.size+2≠w.heap.size by omega)).trans p2;have sg:=(setRow_other w3 w.heap.size _ #[.bool x1,.slice x2 x3 x4] (show w1.heap.size≠w.heap.size by omega)).trans pg;have hszW:w.heap.size+3≤W.heap.size:=(Array.getElem?_eq_some_iff.1 r2.out).1;have M1:=(hq.mono hszW).row (g:=w.heap.size) (by omega) #[.bool x1,.slice x2 x3 x4];have M2:=hK.row #[.bool x1,.slice x2 x3 x4] (hK.ext J2.out hE3) p0 (by decide) (nR _);have Mg:=(Jg.out.ext hE3).row (g:=w.heap.size) (by omega) #[.bool x1,.slice x2 x3 x4];have E4:=(E2.out.trans hE3).row (nR _) #[.bool x1,.slice x2 x3 x4];have hdv2:=mK (Af6 _ _ Y (G:Int) (w3.setRow w.heap.size #[.bool x1,.slice x2 x3 x4]) hY hgl.out (by omega) (hK.r M2) Mg.r);have d1:=Ac s1;have dg:=Ac sg;replace p0:=mK p0;replace s0:=mK s0;replace s1:=mK s1;replace s2:=mK s2;replace M1:=mK M1;replace E4:=mK E4;clear hq r0 r1 r2 rg E2 J1 J2 Jg c0 c1 cg p1 p2 pg hdv sg M2 Mg hE3;go_wp2_with (refine wpList_store_row rfl 52 (.tmp 2) (.tmp 17) rfl w.heap.size #[.bool x1,.slice x2 x3 x4] rfl rfl 52 _ p0.out (by kernel_rfl) rfl (by kernel_rfl) ?_);refine hdv2.out.mono ?_;rintro e w5 ⟨q,r,rfl,hE5,hq,_⟩
   obtain ⟨y1,y2,y3,y4,rfl⟩:=hq.r.shape;have u0:=hE5.blk s0.out;have u1:=hE5.blk s1.out;have u2:=hE5.blk s2.out;have hsz4:w.heap.size+3≤(w3.setRow w.heap.size #[.bool x1,.slice x2 x3 x4]).heap.size:=(Array.getElem?_eq_some_iff.1 s2.out).1;have r0:=(setRow_other w5 (w.heap.size+1) _ #[.bool y1,.slice y2 y3 y4] (show w.heap.size≠w.heap.size+1 by omega)).trans u0;have r1:=setRow_heap _ _ _ #[.bool y1,.slice y2 y3 y4] _ _ u1;have r2:=(setRow_other w5 (w.heap.size+1) _ #[.bool y1,.slice y2 y3 y4] (show w.heap.size+2≠w.heap.size+1 by omega)).trans u2;have JN:=hK.o (((M1.out.ext hE5).row (g:=w.heap.size+1) (by omega) #[.bool y1,.slice y2 y3 y4]).mono (show w.heap.size≤w.heap.size+3 by omega));have JD:=hK.o (((hq.mono hsz4).row (g:=w.heap.size+1) (by omega) #[.bool y1,.slice y2 y3 y4]).mono (show w.heap.size≤w.heap.size+3 by omega));have E2:=mK ((E4.out.trans hE5).row (show w.heap.size≤w.heap.size+1 by omega) #[.bool y1,.slice y2 y3 y4]);replace u1:=mK u1;clear u0 u2 M1 E4 hE5 hq s0 s1 s2 d1 dg hdv2 hsz4
   have hYn:Y.tdiv (G:Int)≠0:=by
    intro h;exact hYz.out h
   have hsg:=mK (Mb _ (Y.tdiv (G:Int)) (w5.setRow (w.heap.size+1) #[.bool y1,.slice y2 y3 y4]) (hK.r JD) hY2.out);have c1:=Ac r1;replace r0:=mK r0;replace r1:=mK r1;replace r2:=mK r2;replace JN:=mK JN;replace JD:=mK JD;(go_wp2_with (refine wpList_store_row rfl 52 (.tmp 3) (.tmp 23) rfl (w.heap.size+1) #[.bool y1,.slice y2 y3 y4] rfl rfl 52 _ u1.out (by kernel_rfl) rfl (by kernel_rfl) ?_));refine hsg.out.mono ?_;rintro e w7 ⟨rfl,hE7⟩;have q0:=hE7.blk r0.out;have q1:=hE7.blk r1.out;have q2:=hE7.blk r2.out;have JN:=hK.ext JN.out hE7;have JD:=hK.ext JD.out hE7;have E7:=E2.out.trans hE7;clear r0 r1 r2 E2 hE7 c1 hsg;by_cases hneg:Y<0
   ·have hsn:(Y.tdiv (G:Int)).sign = -1:=Int.sign_eq_neg_one_of_neg ((hs2.out).2 hneg)
    rw [hsn];have en:=en.out;have ed:=ed.out;rw [if_pos hneg] at en ed;subst en;subst ed;have c0:=Ac q0;have c1:=Ac q1;have t1:=mK (fun W e=>Kq _ (X.tdiv (G:Int)) W hX2.out ((hK.r JN).ext (w':=W) e));have t2:=mK (fun W e=>Kq _ (Y.tdiv (G:Int)) W hY2.out ((hK.r JD).ext (w':=W) e));replace q0:=mK q0;replace q1:=mK q1;replace q2:=mK q2;replace E7:=mK E7;clear JN JD;replace hneg:=mK hneg;go_wp2_with fail;have k00:=fun W (e:Ext w7 W)=>e.cell c0.1;have k01:=fun W (e:Ext w7 W)=>e.cell c0.2;have k10:=fun W (e:Ext w7 W)=>e.cell c1.1;have k11:=fun W (e:Ext w7 W)=>e.cell c1.2;have hz7:w.heap.size+3≤w7.heap.size:=(Array.getElem?_eq_some_iff.1 q2.out).1;apply Ad [.val _,.pred (fun W v=>IntO W (w.heap.size+3) v (-(X.tdiv (G:Int)))),.val _,.pred (fun W v=>IntO W (w.heap.size+3) v (-(Y.tdiv (G:Int))))] (by kernel_rfl) (stable_vals _ (Bq _ _ (stable_vals _ (Bq _ _ trivial))));refine ⟨fun W hW _=>by go_simp;exact ⟨xR _,rfl⟩,?_⟩;refine ⟨fun W hW _=>?h1,fun v1=>?_⟩
    case h1=>
     go_simp;refine (t1.out W hW).mono ?_;rintro e w' ⟨v,rfl,h1,h2⟩;exact ⟨v,rfl,h1,h2.mono (nT hz7 hW.size)⟩
    refine ⟨fun W hW _=>by go_simp;exact ⟨xR _,rfl⟩,?_⟩;refine ⟨fun W hW _=>?h3,fun v3=>fun W hW hF=>?fin⟩
    case h3=>
     go_simp;refine (t2.out W hW).mono ?_;rintro e w' ⟨v,rfl,h1,h2⟩;exact ⟨v,rfl,h1,h2.mono (nT hz7 hW.size)⟩
    case fin=>
     have J3:IntO W (w.heap.size+3) v3 (-(Y.tdiv (G:Int))):=hF.1 rfl;have J1:IntO W (w.heap.size+3) v1 (-(X.tdiv (G:Int))):=hF.2.1 rfl;obtain ⟨x1,x2,x3,x4,rfl⟩:=J1.r.shape;obtain ⟨y1,y2,y3,y4,rfl⟩:=J3.r.shape;have p0:=hW.blk q0.out;have p1:=hW.blk q1.out;have p2:=hW.blk q2.out;have hrows:=Dq W w.heap.size (w.heap.size+1) #[.bool x1,.slice x2 x3 x4] #[.bool y1,.slice y2 y3 y4] _ _ _ (by omega) p0 p1
     have p3:((W.setRow w.heap.size #[.bool x1,.slice x2 x3 x4]).setRow (w.heap.size+1) #[.bool y1,.slice y2 y3 y4]).heap[w.heap.size+2]? = some (.cells #[.bool false,.slice none 0 0,.bool false,.slice none 0 0] 54 (0,0)):=by
      rw [setRow_other _ _ _ _ (by omega),setRow_other _ _ _ _ (by omega)];exact p2
     have d0:=Ac hrows.1;have d1:=Ac hrows.2.1;have F1:=hK.o (((((J1.row (g:=w.heap.size) (by omega) #[.bool x1,.slice x2 x3 x4]).row (g:=w.heap.size+1) (by omega) #[.bool y1,.slice y2 y3 y4]).row (g:=w.heap.size+2) (by omega) #[.bool x1,.slice x2 x3 x4,.bool y1,.slice y2 y3 y4])).mono (show w.heap.size≤w.heap.size+3 by omega));have F3:=hK.o (((((J3.row (g:=w.heap.size) (by omega) #[.bool x1,.slice x2 x3 x4]).row (g:=w.heap.size+1) (by omega) #[.bool y1,.slice y2 y3 y4]).row (g:=w.heap.size+2) (by omega) #[.bool x1,.slice x2 x3 x4,.bool y1,.slice y2 y3 y4])).mono (show w.heap.size≤w.heap.size+3 by omega));have FE:=mK ((((E7.out.trans hW).row (show w.heap.size≤w.heap.size by omega) #[.bool x1,.slice x2 x3 x4]).row (show w.heap.size≤w.heap.size+1 by omega) #[.bool y1,.slice y2 y3 y4]).row (show w.heap.size≤w.heap.size+2 by omega) #[.bool x1,.slice x2 x3 x4,.bool y1,.slice y2 y3 y4]);replace p0:=mK p0;replace p3:=mK p3;replace hrows:=mK hrows;replace F1:=mK F1;replace F3:=mK F3;clear J1 J3 hF k00 k01 k10 k11 p1 p2 c0 c1 hW;go_simp
     go_wp2_with (first
      | (refine wpList_store_row rfl 52 (.tmp 2) (.tmp 29) rfl w.heap.size #[.bool x1,.slice x2 x3 x4] rfl rfl 52 _ p0.out (by kernel_rfl) rfl (by kernel_rfl) ?_)
      | (refine wpList_store_row rfl 52 (.tmp 3) (.tmp 31) rfl (w.heap.size+1) #[.bool y1,.slice y2 y3 y4] rfl rfl 52 _ hrows.out.2.2 (by kernel_rfl) rfl (by kernel_rfl) ?_)
      | (refine wpList_store_row rfl 54 (.tmp 4) (.tmp 34) rfl (w.heap.size+2) #[.bool x1,.slice x2 x3 x4,.bool y1,.slice y2 y3 y4] rfl rfl 54 _ p3.out (by kernel_rfl) rfl (by kernel_rfl) ?_))
     exact bodyPost_ret (results_cell_row rfl _ _ (w.heap.size+2) 54 #[.bool x1,.slice x2 x3 x4,.bool y1,.slice y2 y3 y4] (0,0) _ rfl (setRow_heap _ _ _ _ _ _ p3.out) Tryz.underlying54 rfl (by kernel_rfl)) rfl ⟨_,_,_,_,_,_,_,_,rfl,FE.out,F1.out,F3.out⟩
   ·have hsn:(Y.tdiv (G:Int)).sign=1:=Int.sign_eq_one_of_pos (by have:=mt (hs2.out).1 hneg;have:=hYn;omega)
    rw [hsn];have en:=en.out;have ed:=ed.out;rw [if_neg hneg] at en ed;subst en;subst ed;have c0:=Ac q0;have c1:=Ac q1;have F1:=hK.row (g:=w.heap.size+2) #[.bool x1,.slice x2 x3 x4,.bool y1,.slice y2 y3 y4] JN q2 (by decide) (by omega);have F3:=hK.row (g:=w.heap.size+2) #[.bool x1,.slice x2 x3 x4,.bool y1,.slice y2 y3 y4] JD q2 (by decide) (by omega);have FE:=mK (E7.row (show w.heap.size≤w.heap.size+2 by omega) #[.bool x1,.slice x2 x3 x4,.bool y1,.slice y2 y3 y4]);replace q0:=mK q0;replace q1:=mK q1;replace q2:=mK q2;replace E7:=mK E7;replace F1:=mK F1;replace F3:=mK F3;clear JN JD;replace hneg:=mK hneg;go_wp2_with (refine wpList_store_row rfl 54 (.tmp 4) (.tmp 34) rfl (w.heap.size+2) #[.bool x1,.slice x2 x3 x4,.bool y1,.slice y2 y3 y4] rfl rfl 54 _ q2.out (by kernel_rfl) rfl (by kernel_rfl) ?_);exact bodyPost_ret (results_cell_row rfl _ _ (w.heap.size+2) 54 #[.bool x1,.slice x2 x3 x4,.bool y1,.slice y2 y3 y4] (0,0) _ rfl (setRow_heap _ _ _ _ _ _ q2.out) Tryz.underlying54 rfl (by kernel_rfl)) rfl ⟨_,_,_,_,_,_,_,_,rfl,FE.out,F1.out,F3.out⟩
theorem Afh (base:Nat)(v1 v2:Value)(X Y:Int)(w:World)(hb:base≤w.heap.size)(hX:nl X≤1073741824)(hY:nl Y≤1073741824)(hY0:Y≠0)(h1:IntO w base v1 X)(h2:IntO w base v2 Y) :
  Calls Tryz.prog 164 #[v1,v2] w fun e w'=>∃ v,e=.returned v∧Ext w w'∧FracO w' base v (Rat.divInt X Y):=by
 refine (Afi _ v1 v2 X Y w (Ajd w base hb) hX hY hY0 h1 h2).mono ?_;rintro e w' ⟨b1,a1,n1,c1,b2,a2,n2,c2,rfl,hE,h1,h2⟩;exact ⟨_,rfl,hE,b1,a1,n1,c1,b2,a2,n2,c2,rfl,h1,h2⟩
theorem Aea {ss:List FSpec}(b:Nat)(q:Rat)(h:StableAll Ext ss):StableAll Ext (.pred (fun W v=>FracO W b v q)::ss):=⟨fun _ _ _ e h=>FracO.ext h e,h⟩
theorem Ee (X Y:Int):nl (X*Y)≤nl X+nl Y:=by unfold nl;rw [Int.natAbs_mul];exact On _ _
theorem Afa (X Y:Int):nl (X+Y)≤max (nl X) (nl Y)+1:=by
 unfold nl;exact nT (An (Int.natAbs_add_le X Y)) (Ah7 _ _)
theorem Ug (X:Int):nl (-X)=nl X:=by unfold nl;rw [Int.natAbs_neg]
theorem Zk (X Y:Int):nl (X-Y)≤max (nl X) (nl Y)+1:=by
 rw [Int.sub_eq_add_neg,←Ug Y];exact Afa _ _
theorem Aao (x y:Rat):((x.den:Int)*y.den)≠0:=Int.mul_ne_zero (by have:=x.den_nz;omega) (by have:=y.den_nz;omega)
theorem Aig (x y:Rat):Rat.divInt (x.num*y.den+y.num*x.den) (x.den*y.den)=x+y:=by
 rw [←Rat.divInt_add_divInt _ _ (by have:=x.den_nz;omega) (by have:=y.den_nz;omega),Rat.num_divInt_den,Rat.num_divInt_den]
theorem Abp (x y:Rat):Rat.divInt (x.num*y.den-y.num*x.den) (x.den*y.den)=x-y:=by
 rw [←Rat.divInt_sub_divInt _ _ (by have:=x.den_nz;omega) (by have:=y.den_nz;omega),Rat.num_divInt_den,Rat.num_divInt_den]

theorem Ahz (v1 v2:Value)(x y:Rat)(w:World)(hX1:nf x≤268435456)(hX2:nf y≤268435456)(h1:FracR w v1 x)(h2:FracR w v2 y) :
  Calls Tryz.prog 97 #[v1,v2] w fun e w'=>∃ v,e=.returned v∧Ext w w'∧FracO w' w.heap.size v (x-y):=by
 have H1:=h1;have H2:=h2;obtain ⟨p1,q1,r1,s1,t1,u1,f1,g1,rfl⟩:=h1.shape;obtain ⟨p2,q2,r2,s2,t2,u2,f2,g2,rfl⟩:=h2.shape;have bn1:nl x.num≤268435456:=nT (Nat.le_max_left _ _) hX1;have bd1:nl (x.den:Int)≤268435456:=nT (Nat.le_max_right _ _) hX1;have bn2:nl y.num≤268435456:=nT (Nat.le_max_left _ _) hX2;have bd2:nl (y.den:Int)≤268435456:=nT (Nat.le_max_right _ _) hX2;have tA:=mK (fun w (h1:IntR w (.agg #[.bool p1,.slice q1 r1 s1]) x.num) (h2:IntR w (.agg #[.bool t2,.slice u2 f2 g2]) (y.den:Int))=>Kr _ _ _ _ w (nT bn1 (by decide)) (nT bd2 (by decide)) h1 h2);have tB:=mK (fun w (h1:IntR w (.agg #[.bool p2,.slice q2 r2 s2]) y.num) (h2:IntR w (.agg #[.bool t1,.slice u1 f1 g1]) (x.den:Int))=>Kr _ _ _ _ w (nT bn2 (by decide)) (nT bd1 (by decide)) h1 h2);have tC:=mK (fun w (h1:IntR w (.agg #[.bool t1,.slice u1 f1 g1]) (x.den:Int)) (h2:IntR w (.agg #[.bool t2,.slice u2 f2 g2]) (y.den:Int))=>Kr _ _ _ _ w (nT bd1 (by decide)) (nT bd2 (by decide)) h1 h2);have bD:nl ((x.den:Int)*y.den)≤1073741824:=nT (Ee _ _) (by omega);have n1:=Ee x.num y.den;have n2:=Ee y.num x.den;have n3:=Zk (x.num*y.den) (y.num*x.den);have bN:nl (x.num*y.den-y.num*x.den)≤1073741824:=by omega
 have b1:nl (x.num*y.den)≤1073741824:=by omega
 have b2:nl (y.num*x.den)≤1073741824:=by omega
 have pm:=mK (fun v w v' h1 h2=>Abj v v' (x.num*y.den) (y.num*x.den) w b1 b2 h1 h2);have lo:=mK (fun v w' v' (hb:w.heap.size+3≤w'.heap.size) h1 h2=>Afh (w.heap.size+3) v v' (x.num*y.den-y.num*x.den) ((x.den:Int)*y.den) w' hb bN bD (Aao x y) h1 h2);clear n1 n2 n3 b1 b2;replace H1:=mK H1;replace H2:=mK H2;clear h1 h2;go_enter Tryz.func97,Tryz.ntmps97;go_wp2_with fail;obtain ⟨wb,hwb⟩:=nmE (((w.alloc (.cells #[.bool p1,.slice q1 r1 s1,.bool t1,.slice u1 f1 g1] 54)).alloc (.cells #[.bool p2,.slice q2 r2 s2,.bool t2,.slice u2 f2 g2] 54)).alloc (.cells #[.bool false,.slice none 0 0,.bool false,.slice none 0 0] 54));have hE:Ext w wb:=by rw [hwb];exact ((((xR w).al _).al _).al _)
 obtain ⟨c10,c11,c12,c13⟩:=ceX3 (aL30 hwb);obtain ⟨c20,c21,c22,c23⟩:=ceX3 (aL31 hwb);have hB:=mK (fun W (e:Ext wb W)=>e.blk (aL32 hwb));have hsz:w.heap.size+3≤wb.heap.size:=by rw [hwb];simp
 replace H1:=mK (H1.out.ext hE);replace H2:=mK (H2.out.ext hE);rw [←hwb];replace hE:=mK hE;clear hwb;apply Ad [.val _,.val _,.val _,.val _,.pred (fun W v=>IntO W (w.heap.size+3) v (x.num*y.den)),.val _,.val _,.val _,.val _,.pred (fun W v=>IntO W (w.heap.size+3) v (y.num*x.den)),.pred (fun W v=>IntO W (w.heap.size+3) v (x.num*y.den-y.num*x.den)),.val _,.val _,.val _,.val _,.pred (fun W v=>IntO W (w.heap.size+3) v ((x.den:Int)*y.den)),.pred (fun W v=>FracO W (w.heap.size+3) v (Rat.divInt (x.num*y.den-y.num*x.den) (x.den*y.den)))] (by kernel_rfl) (stable_vals _ (stable_vals _ (stable_vals _ (stable_vals _ (Bq _ _ (stable_vals _ (stable_vals _ (stable_vals _ (stable_vals _ (Bq _ _ (Bq _ _ (stable_vals _ (stable_vals _ (stable_vals _ (stable_vals _ (Bq _ _ (Aea _ _ trivial)))))))))))))))));refine ⟨fun W hW _=>by go_simp;exact ⟨xR _,rfl⟩,?_⟩;refine ⟨fun W hW _=>by go_simp;exact ⟨xR _,rfl⟩,?_⟩;refine ⟨fun W hW _=>by go_simp;exact ⟨xR _,rfl⟩,?_⟩;refine ⟨fun W hW _=>by go_simp;exact ⟨xR _,rfl⟩,?_⟩;refine ⟨fun W hW hF=>?g4,fun v104=>?_⟩
 case g4=>
  clear hF;go_simp;refine (tA.out W (H1.out.num.ext hW) (H2.out.den.ext hW)).mono ?_;rintro e w' ⟨v,rfl,h1,h2⟩;exact ⟨v,rfl,h1,h2.mono (nT hsz hW.size)⟩
 refine ⟨fun W hW _=>by go_simp;exact ⟨xR _,rfl⟩,?_⟩;refine ⟨fun W hW _=>by go_simp;exact ⟨xR _,rfl⟩,?_⟩;refine ⟨fun W hW _=>by go_simp;exact ⟨xR _,rfl⟩,?_⟩;refine ⟨fun W hW _=>by go_simp;exact ⟨xR _,rfl⟩,?_⟩;refine ⟨fun W hW hF=>?g9,fun v109=>?_⟩
 case g9=>
  clear hF;go_simp;refine (tB.out W (H2.out.num.ext hW) (H1.out.den.ext hW)).mono ?_;rintro e w' ⟨v,rfl,h1,h2⟩;exact ⟨v,rfl,h1,h2.mono (nT hsz hW.size)⟩
 refine ⟨fun W hW hF=>?g10,fun v110=>?_⟩
 case g10=>
  have d4:Hid (IntO W (w.heap.size+3) v104 (x.num*y.den)):=hF.2.1 (by kernel_rfl);have d9:Hid (IntO W (w.heap.size+3) v109 (y.num*x.den)):=hF.1 (by kernel_rfl);clear hF;go_simp;refine (pm.out _ W _ d4.out.r d9.out.r).mono ?_;rintro e w' ⟨v,rfl,h1,h2⟩;exact ⟨v,rfl,h1,h2.mono (nT hsz hW.size)⟩
 refine ⟨fun W hW _=>by go_simp;exact ⟨xR _,rfl⟩,?_⟩;refine ⟨fun W hW _=>by go_simp;exact ⟨xR _,rfl⟩,?_⟩;refine ⟨fun W hW _=>by go_simp;exact ⟨xR _,rfl⟩,?_⟩;refine ⟨fun W hW _=>by go_simp;exact ⟨xR _,rfl⟩,?_⟩;refine ⟨fun W hW hF=>?g15,fun v115=>?_⟩
 case g15=>
  clear hF;go_simp;refine (tC.out W (H1.out.den.ext hW) (H2.out.den.ext hW)).mono ?_;rintro e w' ⟨v,rfl,h1,h2⟩;exact ⟨v,rfl,h1,h2.mono (nT hsz hW.size)⟩
 refine ⟨fun W hW hF=>?g16,fun v116=>fun W hW hF=>?fin⟩
 case g16=>
  have d10:Hid (IntO W (w.heap.size+3) v110 (x.num*y.den-y.num*x.den)):=hF.2.1 (by kernel_rfl);have d15:Hid (IntO W (w.heap.size+3) v115 ((x.den:Int)*y.den)):=hF.1 (by kernel_rfl);clear hF;go_simp;refine (lo.out _ W _ (nT hsz hW.size) d10.out d15.out).mono ?_;rintro e w' ⟨v,rfl,h1,h2⟩;exact ⟨v,rfl,h1,h2⟩
 case fin=>
  have d16:FracO W (w.heap.size+3) v116 (Rat.divInt (x.num*y.den-y.num*x.den) (x.den*y.den)):=hF.1 rfl;obtain ⟨x1,x2,x3,x4,y1,y2,y3,y4,rfl⟩:=d16.r.shape;have R:=d16;have hBW:=hB.out W hW;have FR:=((R.row (g:=w.heap.size+2) (by omega) #[.bool x1,.slice x2 x3 x4,.bool y1,.slice y2 y3 y4]).mono (show w.heap.size≤w.heap.size+3 by omega))
  have FE:=mK ((hE.out.trans hW).row (show w.heap.size≤w.heap.size+2 by omega) #[.bool x1,.slice x2 x3 x4,.bool y1,.slice y2 y3 y4]);rw [Abp] at FR;replace FR:=mK FR;clear hF R c10 c11 c12 c13 c20 c21 c22 c23 hW;go_simp;go_wp2_with (refine wpList_store_row rfl 54 (.tmp 4) (.tmp 21) rfl (w.heap.size+2) #[.bool x1,.slice x2 x3 x4,.bool y1,.slice y2 y3 y4] rfl rfl 54 _ hBW (by kernel_rfl) rfl (by kernel_rfl) ?_);exact bodyPost_ret (results_cell_row rfl _ _ (w.heap.size+2) 54 #[.bool x1,.slice x2 x3 x4,.bool y1,.slice y2 y3 y4] (0,0) _ rfl (setRow_heap _ _ _ _ _ _ hBW) Tryz.underlying54 rfl (by kernel_rfl)) rfl ⟨_,rfl,FE.out,FR.out⟩
theorem Aju (v1 v2:Value)(x y:Rat)(w:World)(hX1:nf x≤268435456)(hX2:nf y≤268435456)(h1:FracR w v1 x)(h2:FracR w v2 y) :
  Calls Tryz.prog 103 #[v1,v2] w fun e w'=>e=.returned (.int .i64 ((x.num*y.den-y.num*x.den).sign))∧Ext w w':=by
 have H1:=h1;have H2:=h2;obtain ⟨p1,q1,r1,s1,t1,u1,f1,g1,rfl⟩:=h1.shape;obtain ⟨p2,q2,r2,s2,t2,u2,f2,g2,rfl⟩:=h2.shape;have bn1:nl x.num≤268435456:=nT (Nat.le_max_left _ _) hX1;have bd1:nl (x.den:Int)≤268435456:=nT (Nat.le_max_right _ _) hX1;have bn2:nl y.num≤268435456:=nT (Nat.le_max_left _ _) hX2;have bd2:nl (y.den:Int)≤268435456:=nT (Nat.le_max_right _ _) hX2;have tA:=mK (fun w (h1:IntR w (.agg #[.bool p1,.slice q1 r1 s1]) x.num) (h2:IntR w (.agg #[.bool t2,.slice u2 f2 g2]) (y.den:Int))=>Kr _ _ _ _ w (nT bn1 (by decide)) (nT bd2 (by decide)) h1 h2);have tB:=mK (fun w (h1:IntR w (.agg #[.bool p2,.slice q2 r2 s2]) y.num) (h2:IntR w (.agg #[.bool t1,.slice u1 f1 g1]) (x.den:Int))=>Kr _ _ _ _ w (nT bn2 (by decide)) (nT bd1 (by decide)) h1 h2);have n1:=Ee x.num y.den;have n2:=Ee y.num x.den;have b1:nl (x.num*y.den)≤1073741824:=by omega
 have b2:nl (y.num*x.den)≤1073741824:=by omega
 have cm:=mK (fun v w v' h1 h2=>Xu v v' (x.num*y.den) (y.num*x.den) w b1 b2 h1 h2);clear n1 n2 b1 b2;replace H1:=mK H1;replace H2:=mK H2;clear h1 h2;go_enter Tryz.func103,Tryz.ntmps103;go_wp2_with fail;obtain ⟨wb,hwb⟩:=nmE ((w.alloc (.cells #[.bool p1,.slice q1 r1 s1,.bool t1,.slice u1 f1 g1] 54)).alloc (.cells #[.bool p2,.slice q2 r2 s2,.bool t2,.slice u2 f2 g2] 54));have hE:Ext w wb:=by rw [hwb];exact (((xR w).al _).al _)
 obtain ⟨c10,c11,c12,c13⟩:=ceX3 (aL20 hwb);obtain ⟨c20,c21,c22,c23⟩:=ceX3 (aL21 hwb);have hsz:w.heap.size+2≤wb.heap.size:=by rw [hwb];simp
 replace H1:=mK (H1.out.ext hE);replace H2:=mK (H2.out.ext hE);rw [←hwb];replace hE:=mK hE;clear hwb;apply Ad [.val _,.val _,.val _,.val _,.pred (fun W v=>IntO W (w.heap.size+2) v (x.num*y.den)),.val _,.val _,.val _,.val _,.pred (fun W v=>IntO W (w.heap.size+2) v (y.num*x.den)),.val (.int .i64 ((x.num*y.den-y.num*x.den).sign))] (by kernel_rfl) (stable_vals _ (stable_vals _ (stable_vals _ (stable_vals _ (Bq _ _ (stable_vals _ (stable_vals _ (stable_vals _ (stable_vals _ (Bq _ _ (stable_vals _ trivial)))))))))));refine ⟨fun W hW _=>by go_simp;exact ⟨xR _,rfl⟩,?_⟩;refine ⟨fun W hW _=>by go_simp;exact ⟨xR _,rfl⟩,?_⟩;refine ⟨fun W hW _=>by go_simp;exact ⟨xR _,rfl⟩,?_⟩;refine ⟨fun W hW _=>by go_simp;exact ⟨xR _,rfl⟩,?_⟩;refine ⟨fun W hW hF=>?g4,fun v104=>?_⟩
 case g4=>
  clear hF;go_simp;refine (tA.out W (H1.out.num.ext hW) (H2.out.den.ext hW)).mono ?_;rintro e w' ⟨v,rfl,h1,h2⟩;exact ⟨v,rfl,h1,h2.mono (nT hsz hW.size)⟩
 refine ⟨fun W hW _=>by go_simp;exact ⟨xR _,rfl⟩,?_⟩;refine ⟨fun W hW _=>by go_simp;exact ⟨xR _,rfl⟩,?_⟩;refine ⟨fun W hW _=>by go_simp;exact ⟨xR _,rfl⟩,?_⟩;refine ⟨fun W hW _=>by go_simp;exact ⟨xR _,rfl⟩,?_⟩;refine ⟨fun W hW hF=>?g9,fun v109=>?_⟩
 case g9=>
  clear hF;go_simp;refine (tB.out W (H2.out.num.ext hW) (H1.out.den.ext hW)).mono ?_;rintro e w' ⟨v,rfl,h1,h2⟩;exact ⟨v,rfl,h1,h2.mono (nT hsz hW.size)⟩
 refine ⟨fun W hW hF=>?g10,fun W hW hF=>?fin⟩
 case g10=>
  have d4:Hid (IntO W (w.heap.size+2) v104 (x.num*y.den)):=hF.2.1 (by kernel_rfl);have d9:Hid (IntO W (w.heap.size+2) v109 (y.num*x.den)):=hF.1 (by kernel_rfl);clear hF;go_simp;refine (cm.out _ W _ d4.out.r d9.out.r).mono ?_;rintro e w' ⟨rfl,hE⟩;exact ⟨rfl,hE⟩
 case fin=>
  have FE:=mK (hE.out.trans hW);clear hF hW;go_simp;go_wp2_with fail;go_ret;exact ⟨rfl,FE.out⟩
theorem Ahr:nl 0≤1073741824:=by unfold nl;simp [Al]
theorem Pu:nl 1≤1073741824:=by unfold nl;simp;rw [Iu (by omega) (by omega)];simp
theorem Si (v v0:Value)(X:Int)(w:World)(hX:nl X≤1073741824)(h1:IntR w v X)(h0:IntR w v0 0) :
  Calls Tryz.prog 190 #[v,v0] w fun e w'=>∃ v,e=.returned v∧Ext w w'∧IntO w' w.heap.size v X:=by
 have:=Ua v v0 X 0 w hX Ahr h1 h0;rwa [Int.add_zero] at this

theorem Qb (w:World):MagR w (.slice none 0 0) []:=⟨none,0,rfl,nR _,Hf w⟩
theorem Fv (a:Option Addr)(l:List Nat)(c:Nat)(w:World)(hok:OkL l)(hlen:l.length≤4294967296)(hcap:l.length≤c)(h:Row w a (limV l)) :
  Calls Tryz.prog 257 #[.slice a l.length c] w fun e w'=>e=.returned (.slice a (lim (val l)).length c)∧w=w':=by
 obtain ⟨b,off,ha,hc⟩:=h;replace hc:=mK hc;replace ha:=mK ha;go_enter Tryz.func257,Tryz.ntmps257;go_wp2_with fail;go_loop [0] (fun s=>∃ m:Nat,m≤l.length∧s=.slice a m c∧val (l.take m)=val l) (fun s=>match s with | .slice _ n _=>n|_=>0)
 case atStart=>exact ⟨l.length,nR _,rfl,by rw [List.take_length]⟩
 case round=>
  obtain ⟨m,hm,rfl,hv⟩:=hrel;replace hv:=mK hv;by_cases h0:m=0
  ·subst h0
   have e0:lim (val l)=[]:=by rw [←hv.out,List.take_zero];exact Al
   replace e0:=mK (congrArg List.length e0);go_wp2_with fail;go_ret;exact ⟨by rw [e0.out];rfl,rfl⟩
  ·obtain ⟨k,rfl⟩:∃ k,m=k+1:=⟨m-1,by omega⟩
   have hcell:=hc.out k (by rw [Ah];omega);rw [Bs _ _ (by omega)] at hcell;have ha2:=ha.out (At (show k<l.length by omega));by_cases hz:l.getD k 0=0
   ·have HV:Hid (val (l.take k)=val l):=by
     have:=Ai l k (by omega);rw [hz] at this;exact mK (by rw [←hv.out,this];simp)
    rw [hz] at hcell;replace hz:=mK hz;rw [ha2];replace ha2:=mK ha2;go_wp2_with fail;go_round
    case rel=>exact ⟨k,by omega,rfl,HV.out⟩
    case measure=>simp
   ·have e0:lim (val l)=l.take (k+1):=by
     rw [←hv.out];refine Om (By hok _) (.inr ?_);rw [List.take_succ_eq_append_getElem (by omega),List.getLastD_eq_getLast?,List.getLast?_append];simpa [show k<l.length by omega] using hz
    have hn:(lim (val l)).length=k+1:=by rw [e0,List.length_take];omega
    have hz2:(((l.getD k 0:Nat):Int)==0)=false:=by simpa using hz
    replace e0:=mK e0;replace hn:=mK hn;replace hz:=mK hz;generalize l.getD k 0=y at hcell hz2;rw [ha2];replace ha2:=mK ha2;go_wp2_with fail;go_ret;exact ⟨by rw [hn.out,ha2.out];rfl,rfl⟩
def NewV (lo:Nat)(s:Value):Prop:=∀ g,s.ownBlock=some g→lo≤g
def NewI (lo:Nat)(v:Value):Prop:=∀ b s,v=.agg #[.bool b,s]→NewV lo s
theorem MagO.newV {w:World}{base:Nat}{s:Value}{l:List Nat}(h:MagO w base s l):NewV base s:=by
 obtain ⟨_,⟨rfl,_⟩|⟨g,cap,cur,rfl,h1,_⟩⟩:=h
 ·intro g hg
  cases hg
 ·intro k hk
  cases hk;exact h1
theorem Sf (neg:Bool)(s:Value)(l:List Nat)(w:World)(hok:OkL l)(hlen:l.length≤4294967296)(h:MagR w s l) :
  Calls Tryz.prog 217 #[.bool neg,s] w fun e w'=>∃ v,e=.returned v∧IntR w' v (sg neg (val l))∧Ext w w'∧∀ lo,NewV lo s→NewI lo v:=by
 obtain ⟨a,c,rfl,hcap,hrow⟩:=h;replace hrow:=mK hrow;have HT:=fun w' (e:Row w' a (limV l))=>Fv a l c w' hok hlen hcap e;by_cases h0:val l=0
 ·rw [h0,Al] at HT
  have hr:∀ w':World,IntR w' (.agg #[.bool false,.slice none 0 0]) (sg neg (val l)):=fun w'=>
   ⟨.slice none 0 0,by rw [Ts,h0];simp,by rw [Il,h0,Al];exact Qb _⟩
  replace HT:=mK HT;clear h0;go_enter Tryz.func217,Tryz.ntmps217;go_wp2_with fail;refine (HT.out _ (hrow.out.ext ((xR _).al _))).mono ?_;rintro e w' ⟨rfl,rfl⟩;go_wp2_with fail;exact bodyPost_ret (v:=.agg #[.bool false,.slice none 0 0]) (by simp [results,Tryz.results217,go_sem]) rfl ⟨_,rfl,hr _,(xR _).al _,fun _ _ _ _ e=>by cases e;intro g hg;cases hg⟩
 ·have hne:(((lim (val l)).length:Int)==0)=false:=by
   rw [Az h0];simp;omega
  have hr:∀ w':World,Ext w w'→IntR w' (.agg #[.bool neg,.slice a (lim (val l)).length c]) (sg neg (val l)):=fun w' e=>
   ⟨.slice a (lim (val l)).length c,by rw [Ts];simp [h0],by rw [Il];exact MagR.ext ⟨_,_,rfl,nT (Cs hok) hcap,hrow.out.lim hok⟩ e⟩
  replace HT:=mK HT;clear h0;go_enter Tryz.func217,Tryz.ntmps217;go_wp2_with fail;refine (HT.out _ (hrow.out.ext ((xR _).al _))).mono ?_;rintro e w' ⟨rfl,rfl⟩;go_wp2_with fail;exact bodyPost_ret (v:=.agg #[.bool neg,.slice a (lim (val l)).length c]) (by simp [results,Tryz.results217,go_sem]) rfl ⟨_,rfl,hr _ ((xR _).al _),(xR _).al _,fun lo h _ _ e=>by cases e;cases a<;>exact h⟩
theorem Acd (neg:Bool)(s:Value)(l:List Nat)(w:World)(hok:OkL l)(hlen:l.length≤4294967296)(h:MagR w s l) :
  Calls Tryz.prog 217 #[.bool neg,s] w fun e w'=>∃ v,e=.returned v∧IntR w' v (sg neg (val l))∧Ext w w':=
 (Sf neg s l w hok hlen h).mono fun _ _ ⟨v,h1,h2,h3,_⟩=>⟨v,h1,h2,h3⟩

theorem Oz {m n:Nat}(h:m<n):((m:Int)-n).sign = -1:=Int.sign_eq_neg_one_of_neg (by omega)
theorem Pa {m n:Nat}(h:n<m):((m:Int)-n).sign=1:=Int.sign_eq_one_of_pos (by omega)
theorem Pb {m n:Nat}(h:m=n):((m:Int)-n).sign=0:=by subst h;simp
theorem Po (a a':Option Addr)(c c':Nat)(m n:Nat)(w:World)(hl:(lim m).length≤4294967296)(hl':(lim n).length≤4294967296)
  (h:Row w a (limV (lim m))) (h':Row w a' (limV (lim n))) :
  Calls Tryz.prog 253 #[.slice a (lim m).length c,.slice a' (lim n).length c'] w fun e w'=>e=.returned (.int .i64 ((m:Int)-n).sign)∧Ext w w':=by
 obtain ⟨l,hlm⟩:=nmE (lim m);obtain ⟨l',hln⟩:∃ l',l'=lim n:=⟨_,rfl⟩
 have hok:OkL l:=hlm ▸ Ap m;have hok':OkL l':=hln ▸ Ap n;have hv:val l=m:=by rw [hlm,Aj]
 have hv':val l'=n:=by rw [hln,Aj]
 rw [←hlm] at hl h ⊢;rw [←hln] at hl' h' ⊢;obtain ⟨R,hR⟩:=nmE (((m:Int)-n).sign);have RL:m<n→R = -1:=fun h=>hR ▸ Oz h;have RG:n<m→R=1:=fun h=>hR ▸ Pa h;have RE:m=n→R=0:=fun h=>hR ▸ Pb h;rw [←hR];clear hR;by_cases hlen:l.length=l'.length
 ·have hE:Hid (l.length=l'.length):=mK hlen
  obtain ⟨b,off,ha,hc⟩:=h;obtain ⟨b',off',ha',hc'⟩:=h';replace ha:=mK ha;replace ha':=mK ha';replace hc:=mK hc;replace hc':=mK hc';replace hv:=mK hv;replace hv':=mK hv';replace RL:=mK RL;replace RG:=mK RG;replace RE:=mK RE;rw [←hlen];clear hlm hln hl' hlen;go_enter Tryz.func253,Tryz.ntmps253;go_wp2_with fail;go_loopw [5] (fun i wr=>∃ k:Nat,k≤l.length∧i=.int .i64 ((k:Int)-1)∧l.drop k=l'.drop k∧Ext w wr) (fun i _=>(intOf i+1).toNat)
  case atStart=>exact ⟨l.length,nR _,rfl,by rw [List.drop_length,hE.out,List.drop_length],xR _⟩
  case round=>
   obtain ⟨k,hk,rfl,hd,he⟩:=hrel;replace hd:=mK hd;replace he:=mK he;by_cases h0:k=0
   ·subst h0
    have e:l=l':=by simpa using hd.out
    have hr:=RE.out (by rw [←hv.out,←hv'.out,e]);subst hr;clear e;go_wp2_with fail;go_ret;exact ⟨rfl,he.out⟩
   ·obtain ⟨j,rfl⟩:∃ j,k=j+1:=⟨k-1,by omega⟩
    have h1:=he.out.cell (hc.out j (by rw [Ah];omega));have h2:=he.out.cell (hc'.out j (by rw [Ah];have:=hE.out;omega));rw [Bs _ _ (by omega)] at h1;rw [Bs _ _ (by have:=hE.out;omega)] at h2;rw [ha.out (At (show j<l.length by omega)),ha'.out (At (show j<l'.length by have:=hE.out;omega))];have hx1:((j+1:Nat):Int)-1=(j:Int):=by omega
    rw [hx1]
    have d1:l.drop j=l.getD j 0::l.drop (j+1):=by
     rw [List.drop_eq_getElem_cons (show j<l.length by omega)];simp [show j<l.length by omega]
    have d2:l'.drop j=l'.getD j 0::l'.drop (j+1):=by
     have:=hE.out;rw [List.drop_eq_getElem_cons (show j<l'.length by omega)];simp [show j<l'.length by omega]
    have hlt:(l.getD j 0<l'.getD j 0→val l<val l')∧(l'.getD j 0<l.getD j 0→val l'<val l):=
     ⟨Ih hok j (by omega) hE.out hd.out,Ih hok' j (by have:=hE.out;omega) hE.out.symm hd.out.symm⟩
    replace hlt:=mK hlt;clear hx1;rcases Nat.lt_trichotomy (l.getD j 0) (l'.getD j 0) with hy|hy|hy
    ·have hr:=RL.out (by rw [←hv.out,←hv'.out];exact hlt.out.1 hy)
     subst hr;have hy2:(((l.getD j 0:Nat):Int))<((l'.getD j 0:Nat):Int):=by omega
     clear d1 d2;replace hy:=mK hy;generalize l.getD j 0=y at h1 hy2;generalize l'.getD j 0=y' at h2 hy2;go_wp2_with fail;go_quiet (fail);go_wp2_with fail;go_ret;exact ⟨rfl,he.out.drN _⟩
    ·have hdn:Hid (l.drop j=l'.drop j):=mK (by rw [d1,d2,hy,hd.out])
     rw [←hy] at h2;clear d1 d2;replace hy:=mK hy;generalize l.getD j 0=y at h1 h2;go_wp2_with fail;go_quiet (fail);go_wp2_with fail;go_quiet (fail);go_wp2_with fail;go_roundw
     case rel=>exact ⟨j,by omega,by go_num,hdn.out,he.out.drN _⟩
     case measure=>simp [intOf]<;>omega
    ·have hr:=RG.out (by rw [←hv.out,←hv'.out];exact hlt.out.2 hy)
     subst hr;have hy2:¬((((l.getD j 0:Nat):Int))<((l'.getD j 0:Nat):Int)):=by omega
     have hy3:(((l'.getD j 0:Nat):Int))<((l.getD j 0:Nat):Int):=by omega
     clear d1 d2;replace hy:=mK hy;generalize l.getD j 0=y at h1 hy2 hy3;generalize l'.getD j 0=y' at h2 hy2 hy3;go_wp2_with fail;go_quiet (fail);go_wp2_with fail;go_quiet (fail);go_wp2_with fail;go_ret;exact ⟨rfl,(he.out.drN _).drN _⟩
 ·have hr:(l.length<l'.length→R = -1)∧(l'.length<l.length→R=1):=by
   subst hlm;subst hln;exact ⟨fun h=>RL (Ef h),fun h=>RG (Ef h)⟩
  have hne:(((l.length:Nat):Int) != ((l'.length:Nat):Int))=true:=Uj hlen;replace hr:=mK hr;clear RL RG RE hlm hln hok hok' hv hv' h h';by_cases hlt:l.length<l'.length
  ·have hr1:=hr.out.1 hlt
   subst hr1;replace hlen:=mK hlen;go_enter Tryz.func253,Tryz.ntmps253;go_wp2_with fail;go_ret;exact ⟨rfl,xR _⟩
  ·have hr1:=hr.out.2 (by omega)
   subst hr1;replace hlen:=mK hlen;go_enter Tryz.func253,Tryz.ntmps253;go_wp2_with fail;go_ret;exact ⟨rfl,xR _⟩
theorem Er {l:List Nat}{k:Nat}(h:¬k<l.length):l.getD k 0=0:=by
 simp [List.getD_eq_getElem?_getD,List.getElem?_eq_none (show l.length≤k by omega)]
theorem Ey (l:List Nat)(k:Nat):val (l.take (k+1))=val (l.take k)+4294967296 ^ k*l.getD k 0:=by
 by_cases h:k<l.length
 ·exact Ai l k h
 ·rw [Er h,List.take_of_length_le (by omega),List.take_of_length_le (by omega)];simp
theorem Vh (q:List Nat)(x:Nat):val (q++[x])=val q+4294967296 ^ q.length*x:=by
 rw [Cq];simp [val]
def AddI (l m q:List Nat)(k c:Nat):Prop:=q.length=k∧OkL q∧c≤1∧val q+4294967296 ^ k*c=val (l.take k)+val (m.take k)∧k≤max l.length m.length+1∧(k≤max l.length m.length∨c=0)
theorem Aa0 (l m:List Nat):AddI l m [] 0 0:=⟨rfl,(fun x h=>by cases h),by omega,by simp [val],by omega,by omega⟩
theorem Iz {l m q:List Nat}{k c:Nat}(h:AddI l m q k c)(hl:OkL l)(hm:OkL m)(hg:k<l.length∨k<m.length∨0<c) :
  AddI l m (q++[(c+l.getD k 0+m.getD k 0)%4294967296]) (k+1) ((c+l.getD k 0+m.getD k 0)/4294967296):=by
 obtain ⟨h1,h2,h3,h4,h5,h6⟩:=h;have hx:=Ag hl k;have hy:=Ag hm k;refine ⟨by simp [h1],okL_append.2 ⟨h2,fun x hx=>by simp at hx;omega⟩,by omega,?_,by omega,?_⟩
 ·rw [Vh,h1,Ey l k,Ey m k,Nat.pow_succ]
  have e:c+l.getD k 0+m.getD k 0=(c+l.getD k 0+m.getD k 0)%4294967296+4294967296*((c+l.getD k 0+m.getD k 0)/4294967296):=(Nat.mod_add_div _ _).symm;generalize (c+l.getD k 0+m.getD k 0)%4294967296=r at *;generalize (c+l.getD k 0+m.getD k 0)/4294967296=s at *;generalize 4294967296 ^ k=p at *;have e2:p*(c+l.getD k 0+m.getD k 0)=p*(r+4294967296*s):=by rw [e]
  simp only [Nat.mul_add] at e2;rw [←Nat.mul_assoc] at e2;omega
 ·by_cases hk:k<max l.length m.length
  ·exact .inl (by omega)
  ·right
   rw [Er (show ¬k<l.length by omega),Er (show ¬k<m.length by omega)];omega
theorem Agp {l m q:List Nat}{k c:Nat}(h:AddI l m q k c)(h1:¬k<l.length)(h2:¬k<m.length)(h3:c=0):OkL q∧q.length≤max l.length m.length+1∧val q=val l+val m:=by
 obtain ⟨g1,g2,g3,g4,g5,g6⟩:=h;subst h3;rw [List.take_of_length_le (by omega),List.take_of_length_le (by omega)] at g4;exact ⟨g2,by omega,by omega⟩
theorem Dn {w:World}{base:Nat}{v:Value}{q:List Nat}{d:Int}{x:Nat}(h:w.ownsRow base 136 1 v (q.length+1) (limV q++[.int .u32 d]))(hd:d=(x:Int)):MagO w base v (q++[x]):=by
 unfold MagO limV at *;rw [hd] at h;simpa using h
theorem Df {w:World}{T:Nat}{u:Value}:∀ j x,[u][j]? = some x→(w.alloc (.cells #[u] T)).cell? ((⟨w.heap.size,0,none⟩:Addr).add j)=some x:=by
 intro j x hx;cases j with
 | zero=>
  simp at hx;subst hx;have:(⟨w.heap.size,0,none⟩:Addr).add 0=⟨w.heap.size,0,none⟩:=by simp [Addr.add]
  rw [this];unfold World.cell?
  rw [heap_alloc_new];rfl
 | succ j=>simp at hx
theorem Fb {d:Int}:∀ u∈[Value.int .u32 d],u.oneCell'=true:=by
 intro u hu;simp at hu;subst hu;rfl
theorem Ext.app {w wr w1:World}{o:Obj}{E sz n:Nat}{v:Value}{xs:List Value}(e:Ext w wr)(h:wr.ownsRow w.heap.size E sz v n xs)(hg:(wr.alloc o).grownBy w1 v.ownBlock):Ext w w1:=
 (e.al o).gr hg fun k hk=>(World.ownsRow.lt h k hk).1
theorem Ai5 (a a':Option Addr)(c c':Nat)(l m:List Nat)(w:World)(hl:l.length≤2147483648)(hm:m.length≤2147483648)(okl:OkL l)(okm:OkL m)
  (h:Row w a (limV l)) (h':Row w a' (limV m)) :
  Calls Tryz.prog 258 #[.slice a l.length c,.slice a' m.length c'] w fun e w'=>∃ v q,e=.returned v∧MagO w' w.heap.size v q∧OkL q∧q.length≤max l.length m.length+1∧val q=val l+val m∧Ext w w':=by
 obtain ⟨b,off,ha,hc⟩:=h;obtain ⟨b',off',ha',hc'⟩:=h';replace ha:=mK ha;replace hc:=mK hc;replace ha':=mK ha';replace hc':=mK hc';have hst:=mK (Aa0 l m);obtain ⟨i0,hi,hz0,hz1,hz2⟩:=info_parts Dp;go_enter Tryz.func258,Tryz.ntmps258;go_wp2_with fail;go_loopw [5,6,7,8] (fun v s i _ wr=>∃ k cr q,i=.int .i64 (k:Nat)∧s=.int .u64 (cr:Nat)∧MagO wr w.heap.size v q∧AddI l m q k cr∧Ext w wr) (fun _ _ i _ _=>(max l.length m.length+2)-(intOf i).toNat)
 case atStart=>exact ⟨0,0,[],rfl,rfl,Gy _ _,hst.out,xR _⟩
 case round=>
  obtain ⟨k,cr,q,rfl,rfl,ho,had,he⟩:=hrel;have hk:=had.2.2.2.2.1;have hcr:=had.2.2.1;have hql:q.length≤2147483650:=by have:=had.1;omega
  have ho0:=mK ho;by_cases hkl:k<l.length
  ·have h1:=he.cell (Bx hc.out hkl)
   have hA:=ha.out (At hkl);have hxl:=Ag okl k;by_cases hkm:k<m.length
   ·have h2:=he.cell (Bx hc'.out hkm)
    have hA':=ha'.out (At hkm);have hyl:=Ag okm k;have hnext:=mK (Iz had okl okm (.inl hkl));rw [hA,hA'];replace hA:=mK hA;replace hA':=mK hA';replace had:=mK had;generalize l.getD k 0=x at *;generalize m.getD k 0=y at *;go_wp2_with (at_builtin;refine wpList_append_own _ rfl (.tmp 48) (.tmp 52) 50 rfl w.heap.size 136 i0 (.int .u32 0) 1 4 Bf hi hz0 hz1 hz2 rfl (by decide) _ q.length (limV q) rfl (World.ownsRow.alloc ho _) ⟨wr.heap.size,0,none⟩ 1 1 [.int .u32 (((cr:Int)+x+y)%4294967296)] rfl rfl Df Fb ?c3 ?c4 ?c5 ?_)
    case c3=>unfold maxLen;have:=hql;omega
    case c4=>have:=hql;omega
    case c5=>have:=he.size;simp;omega
    intro v' w1 hown hgrow _;replace ho:=mK (Dn hown (show _=(((cr+x+y)%4294967296:Nat):Int) by simp));replace he:=mK (he.app ho0.out hgrow);clear hown hgrow;go_wp2_with fail;go_roundw
    case rel=>exact ⟨k+1,(cr+x+y)/4294967296,_,by go_num,by simp,ho.out,hnext.out,he.out⟩
    case measure=>simp [intOf]<;>omega
   ·have hnext:=Iz had okl okm (.inl hkl)
    rw [Er hkm,Nat.add_zero] at hnext;replace hnext:=mK hnext;rw [hA];replace hA:=mK hA;replace had:=mK had;generalize l.getD k 0=x at *;go_wp2_with (at_builtin;refine wpList_append_own _ rfl (.tmp 48) (.tmp 52) 50 rfl w.heap.size 136 i0 (.int .u32 0) 1 4 Bf hi hz0 hz1 hz2 rfl (by decide) _ q.length (limV q) rfl (World.ownsRow.alloc ho _) ⟨wr.heap.size,0,none⟩ 1 1 [.int .u32 (((cr:Int)+x)%4294967296)] rfl rfl Df Fb ?c3 ?c4 ?c5 ?_)
    case c3=>unfold maxLen;have:=hql;omega
    case c4=>have:=hql;omega
    case c5=>have:=he.size;simp;omega
    intro v' w1 hown hgrow _;replace ho:=mK (Dn hown (show _=(((cr+x)%4294967296:Nat):Int) by simp));replace he:=mK (he.app ho0.out hgrow);clear hown hgrow;go_wp2_with fail;go_roundw
    case rel=>exact ⟨k+1,(cr+x)/4294967296,_,by go_num,by simp,ho.out,hnext.out,he.out⟩
    case measure=>simp [intOf]<;>omega
  ·by_cases hkm:k<m.length
   ·have h2:=he.cell (Bx hc'.out hkm)
    have hA':=ha'.out (At hkm);have hyl:=Ag okm k;have hnext:=Iz had okl okm (.inr (.inl hkm));rw [Er hkl,Nat.add_zero] at hnext;replace hnext:=mK hnext;rw [hA'];replace hA':=mK hA';replace had:=mK had;generalize m.getD k 0=y at *;go_wp2_with (at_builtin;refine wpList_append_own _ rfl (.tmp 48) (.tmp 52) 50 rfl w.heap.size 136 i0 (.int .u32 0) 1 4 Bf hi hz0 hz1 hz2 rfl (by decide) _ q.length (limV q) rfl (World.ownsRow.alloc ho _) ⟨wr.heap.size,0,none⟩ 1 1 [.int .u32 (((cr:Int)+y)%4294967296)] rfl rfl Df Fb ?c3 ?c4 ?c5 ?_)
    case c3=>unfold maxLen;have:=hql;omega
    case c4=>have:=hql;omega
    case c5=>have:=he.size;simp;omega
    intro v' w1 hown hgrow _;replace ho:=mK (Dn hown (show _=(((cr+y)%4294967296:Nat):Int) by simp));replace he:=mK (he.app ho0.out hgrow);clear hown hgrow;go_wp2_with fail;go_roundw
    case rel=>exact ⟨k+1,(cr+y)/4294967296,_,by go_num,by simp,ho.out,hnext.out,he.out⟩
    case measure=>simp [intOf]<;>omega
   ·by_cases h0:cr=0
    ·have hend:=mK (Agp had hkl hkm h0)
     subst h0;replace had:=mK had;replace ho:=mK ho;replace he:=mK he;go_wp2_with fail;go_ret;exact ⟨_,_,rfl,ho.out,hend.out.1,hend.out.2.1,hend.out.2.2,he.out⟩
    ·have hnext:=Iz had okl okm (.inr (.inr (by omega)))
     rw [Er hkl,Er hkm,Nat.add_zero,Nat.add_zero] at hnext;have hcp:0<cr:=by omega
     have hki:k≤max l.length m.length:=by have:=had.2.2.2.2.2;omega
     replace hnext:=mK hnext;replace had:=mK had;replace h0:=mK h0;go_wp2_with (at_builtin;refine wpList_append_own _ rfl (.tmp 48) (.tmp 52) 50 rfl w.heap.size 136 i0 (.int .u32 0) 1 4 Bf hi hz0 hz1 hz2 rfl (by decide) _ q.length (limV q) rfl (World.ownsRow.alloc ho _) ⟨wr.heap.size,0,none⟩ 1 1 [.int .u32 ((cr:Int)%4294967296)] rfl rfl Df Fb ?c3 ?c4 ?c5 ?_)
     case c3=>unfold maxLen;have:=hql;omega
     case c4=>have:=hql;omega
     case c5=>have:=he.size;simp;omega
     intro v' w1 hown hgrow _;replace ho:=mK (Dn hown (show _=((cr%4294967296:Nat):Int) by simp));replace he:=mK (he.app ho0.out hgrow);clear hown hgrow;go_wp2_with fail;go_roundw
     case rel=>exact ⟨k+1,cr/4294967296,_,by go_num,by simp,ho.out,hnext.out,he.out⟩
     case measure=>simp [intOf]<;>omega
def SubI (l m q:List Nat)(k c:Nat):Prop:=q.length=k∧k≤l.length∧OkL q∧c≤1∧val q+val (m.take k)=val (l.take k)+4294967296 ^ k*c
theorem Ys (l m:List Nat):SubI l m [] 0 0:=⟨rfl,by omega,(fun x h=>by cases h),by omega,by simp [val]⟩
theorem Ik {l m q:List Nat}{k c d c':Nat}(h:SubI l m q k c)(hk:k<l.length)(hd:d<4294967296)(hc':c'≤1)(e:d+m.getD k 0+c=l.getD k 0+4294967296*c') :
  SubI l m (q++[d]) (k+1) c':=by
 obtain ⟨h1,h2,h3,h4,h5⟩:=h;refine ⟨by simp [h1],by omega,okL_append.2 ⟨h3,fun x hx=>by simp at hx;omega⟩,hc',?_⟩;rw [Vh,h1,Ey l k,Ey m k,Nat.pow_succ];generalize 4294967296 ^ k=p at *;have e2:p*(d+m.getD k 0+c)=p*(l.getD k 0+4294967296*c'):=by rw [e]
 simp only [Nat.mul_add] at e2;rw [←Nat.mul_assoc] at e2;omega
theorem Ad7 {l m q:List Nat}{c:Nat}(h:SubI l m q l.length c)(hm:m.length≤l.length)(hv:val m≤val l):OkL q∧q.length=l.length∧val q=val l-val m:=by
 obtain ⟨h1,h2,h3,h4,h5⟩:=h;refine ⟨h3,h1,?_⟩;rw [List.take_length,List.take_of_length_le hm] at h5;have hq:=Cj h3;rw [h1] at hq;have:c=0∨c=1:=by omega
 rcases this with rfl|rfl<;>simp at h5<;>omega
theorem Yx (a a':Option Addr)(c c':Nat)(l m:List Nat)(w:World)(hl:l.length≤2147483648)(hml:m.length≤l.length)(okl:OkL l)(okm:OkL m)(hv:val m≤val l)
  (h:Row w a (limV l)) (h':Row w a' (limV m)) :
  Calls Tryz.prog 254 #[.slice a l.length c,.slice a' m.length c'] w fun e w'=>∃ v,e=.returned v∧MagO w' w.heap.size v (lim (val l-val m))∧Ext w w':=by
 obtain ⟨b,off,ha,hc⟩:=h;obtain ⟨b',off',ha',hc'⟩:=h';replace ha:=mK ha;replace hc:=mK hc;replace ha':=mK ha';replace hc':=mK hc';replace hv:=mK hv;have hst:=mK (Ys l m);obtain ⟨i0,hi,hz0,hz1,hz2⟩:=info_parts Dp;go_enter Tryz.func254,Tryz.ntmps254;go_wp2_with fail;go_loopw [5,6,7,8,9] (fun v s i _ _ wr=>∃ k cr q,i=.int .i64 (k:Nat)∧s=.int .u64 (cr:Nat)∧MagO wr w.heap.size v q∧SubI l m q k cr∧Ext w wr) (fun _ _ i _ _ _=>l.length-(intOf i).toNat)
 case atStart=>exact ⟨0,0,[],rfl,rfl,Gy _ _,hst.out,xR _⟩
 case round=>
  obtain ⟨k,cr,q,rfl,rfl,ho,had,he⟩:=hrel;have hk:=had.2.1;have hcr:=had.2.2.2.1;have hql:q.length≤2147483648:=by have:=had.1;omega
  have ho0:=mK ho;by_cases hkl:k<l.length
  ·have h1:=he.cell (Bx hc.out hkl)
   have hA:=ha.out (At hkl);have hxl:=Ag okl k;have hyl:=Ag okm k;obtain ⟨x,hxe⟩:=nmE (l.getD k 0);obtain ⟨y,hye⟩:=nmE (m.getD k 0);rw [hA];rw [←hxe] at h1 hxl;rw [←hye] at hyl;replace hxe:=mK hxe;replace hA:=mK hA;by_cases hkm:k<m.length
   ·have h2:=he.cell (Bx hc'.out hkm)
    have hA':=ha'.out (At hkm);rw [←hye] at h2;rw [hA'];replace hA':=mK hA';replace hye:=mK hye;by_cases hlt:x<cr+y
    ·have hlt2:(x:Int)<((cr:Int)+y):=by omega
     have hb1:((cr:Int)+y)≤x+4294967296:=by omega
     have hnext:=mK (Ik (d:=x+4294967296-(cr+y)) (c':=1) had hkl (by omega) (by omega) (by rw [←hxe.out,←hye.out];omega));have hdd:=mK (show (x:Int)+4294967296-(((cr:Int)+y))=((x+4294967296-(cr+y):Nat):Int) by omega);replace had:=mK had;replace hlt:=mK hlt;go_wp2_with (at_builtin;refine wpList_append_own _ rfl (.tmp 38) (.tmp 43) 50 rfl w.heap.size 136 i0 (.int .u32 0) 1 4 Bf hi hz0 hz1 hz2 rfl (by decide) _ q.length (limV q) rfl (World.ownsRow.alloc ho _) ⟨wr.heap.size,0,none⟩ 1 1 [.int .u32 ((x:Int)+4294967296-(((cr:Int)+y)))] rfl rfl Df Fb ?c3 ?c4 ?c5 ?_)
     case c3=>unfold maxLen;have:=hql;omega
     case c4=>have:=hql;omega
     case c5=>have:=he.size;simp;omega
     intro v' w1 hown hgrow _;replace ho:=mK (Dn hown (hdd.out));replace he:=mK (he.app ho0.out hgrow);clear hown hgrow;go_wp2_with fail;go_roundw
     case rel=>exact ⟨k+1,1,_,by go_num,by simp,ho.out,hnext.out,he.out⟩
     case measure=>simp [intOf]<;>omega
    ·have hlt2:¬(x:Int)<((cr:Int)+y):=by omega
     have hnext:=mK (Ik (d:=x-(cr+y)) (c':=0) had hkl (by omega) (by omega) (by rw [←hxe.out,←hye.out];omega));have hdd:=mK (show (x:Int)-(((cr:Int)+y))=((x-(cr+y):Nat):Int) by omega);replace had:=mK had;replace hlt:=mK hlt;go_wp2_with (at_builtin;refine wpList_append_own _ rfl (.tmp 38) (.tmp 43) 50 rfl w.heap.size 136 i0 (.int .u32 0) 1 4 Bf hi hz0 hz1 hz2 rfl (by decide) _ q.length (limV q) rfl (World.ownsRow.alloc ho _) ⟨wr.heap.size,0,none⟩ 1 1 [.int .u32 ((x:Int)-(((cr:Int)+y)))] rfl rfl Df Fb ?c3 ?c4 ?c5 ?_)
     case c3=>unfold maxLen;have:=hql;omega
     case c4=>have:=hql;omega
     case c5=>have:=he.size;simp;omega
     intro v' w1 hown hgrow _;replace ho:=mK (Dn hown (hdd.out));replace he:=mK (he.app ho0.out hgrow);clear hown hgrow;go_wp2_with fail;go_roundw
     case rel=>exact ⟨k+1,0,_,by go_num,by simp,ho.out,hnext.out,he.out⟩
     case measure=>simp [intOf]<;>omega
   ·have hy0:y=0:=by rw [hye];exact Er hkm
    replace hye:=mK hye;replace hy0:=mK hy0;have:=hy0.out;subst this;by_cases hlt:x<cr
    ·have hlt2:(x:Int)<(cr:Int):=by omega
     have hb1:(cr:Int)≤x+4294967296:=by omega
     have hnext:=mK (Ik (d:=x+4294967296-(cr)) (c':=1) had hkl (by omega) (by omega) (by rw [←hxe.out,←hye.out];omega));have hdd:=mK (show (x:Int)+4294967296-((cr:Int))=((x+4294967296-(cr):Nat):Int) by omega);replace had:=mK had;replace hlt:=mK hlt;go_wp2_with (at_builtin;refine wpList_append_own _ rfl (.tmp 38) (.tmp 43) 50 rfl w.heap.size 136 i0 (.int .u32 0) 1 4 Bf hi hz0 hz1 hz2 rfl (by decide) _ q.length (limV q) rfl (World.ownsRow.alloc ho _) ⟨wr.heap.size,0,none⟩ 1 1 [.int .u32 ((x:Int)+4294967296-((cr:Int)))] rfl rfl Df Fb ?c3 ?c4 ?c5 ?_)
     case c3=>unfold maxLen;have:=hql;omega
     case c4=>have:=hql;omega
     case c5=>have:=he.size;simp;omega
     intro v' w1 hown hgrow _;replace ho:=mK (Dn hown (hdd.out));replace he:=mK (he.app ho0.out hgrow);clear hown hgrow;go_wp2_with fail;go_roundw
     case rel=>exact ⟨k+1,1,_,by go_num,by simp,ho.out,hnext.out,he.out⟩
     case measure=>simp [intOf]<;>omega
    ·have hlt2:¬(x:Int)<(cr:Int):=by omega
     have hnext:=mK (Ik (d:=x-(cr)) (c':=0) had hkl (by omega) (by omega) (by rw [←hxe.out,←hye.out];omega));have hdd:=mK (show (x:Int)-((cr:Int))=((x-(cr):Nat):Int) by omega);replace had:=mK had;replace hlt:=mK hlt;go_wp2_with (at_builtin;refine wpList_append_own _ rfl (.tmp 38) (.tmp 43) 50 rfl w.heap.size 136 i0 (.int .u32 0) 1 4 Bf hi hz0 hz1 hz2 rfl (by decide) _ q.length (limV q) rfl (World.ownsRow.alloc ho _) ⟨wr.heap.size,0,none⟩ 1 1 [.int .u32 ((x:Int)-((cr:Int)))] rfl rfl Df Fb ?c3 ?c4 ?c5 ?_)
     case c3=>unfold maxLen;have:=hql;omega
     case c4=>have:=hql;omega
     case c5=>have:=he.size;simp;omega
     intro v' w1 hown hgrow _;replace ho:=mK (Dn hown (hdd.out));replace he:=mK (he.app ho0.out hgrow);clear hown hgrow;go_wp2_with fail;go_roundw
     case rel=>exact ⟨k+1,0,_,by go_num,by simp,ho.out,hnext.out,he.out⟩
     case measure=>simp [intOf]<;>omega
  ·obtain rfl:k=l.length:=by omega
   have hend:=Ad7 had hml hv.out;obtain ⟨aa,cc,rfl,hle,hrow⟩:=ho.r;have hres:=ho.lim hend.1;have hcall:=fun w' (e:Row w' aa (limV q))=>Fv aa q cc w' hend.1 (by omega) hle e;rw [hend.2.2] at hres hcall;rw [hend.2.1] at hcall ⊢;replace hcall:=mK hcall;replace hres:=mK hres;replace hrow:=mK hrow;replace had:=mK had;replace hend:=mK hend;replace he:=mK he;clear ho ho0;go_wp2_with fail;refine (hcall.out _ hrow.out).mono ?_;rintro e w' ⟨rfl,rfl⟩;go_wp2_with fail;go_ret;exact ⟨_,rfl,hres.out,he.out⟩
def Blk (w:World)(g:Nat)(q:List Nat):Prop:=w.heap[g]? = some (.cells (limV q).toArray 136 (0,0))
theorem Blk.cell {w:World}{g:Nat}{q:List Nat}(h:Blk w g q){k:Nat}(hk:k<q.length):w.cell? ⟨g,k,none⟩=some (.int .u32 ((q.getD k 0:Nat):Int)):=by
 unfold Blk at h;simp [World.cell?,h,limV,hk]
theorem Blk.frozen {w:World}{g:Nat}{q:List Nat}(h:Blk w g q)(k:Nat):w.frozen? ⟨g,k,none⟩=false:=by
 unfold Blk at h;simp [World.frozen?,h]
theorem Blk.set {w:World}{g:Nat}{q:List Nat}(h:Blk w g q)(k v:Nat):Blk (w.setCell ⟨g,k,none⟩ (.int .u32 (v:Int))) g (q.set k v):=by
 unfold Blk at *;have:=Ba q k v;unfold World.setCell;show (w.heap.modify g _)[g]? = _
 rw [Array.getElem?_modify,if_pos rfl,h,←this];rfl
theorem Blk.ext {w w':World}{g:Nat}{q:List Nat}(h:Blk w g q)(e:Ext w w'):Blk w' g q:=e.blk h
theorem Uz (w:World)(q:List Nat):Blk (w.alloc (.cells (limV q).toArray 136)) w.heap.size q:=heap_alloc_new w _
theorem Blk.own {w:World}{g:Nat}{q:List Nat}(h:Blk w g q)(hl:q.length≤4294967296):MagO w g (.slice (some ⟨g,0,none⟩) q.length q.length) q:=by
 refine ⟨by simp [limV],.inr ⟨g,q.length,_,rfl,nR _,h,nR _,by unfold maxLen;omega,by simp [limV],?_⟩⟩;rw [Nat.mul_one,List.take_of_length_le (by simp [limV])]
theorem Aeu (a a':Option Addr)(c c':Nat)(l m:List Nat)(w:World)(hl:l.length≤1073741824)(hm:m.length≤1073741824)(okl:OkL l)(okm:OkL m)
  (h:Row w a (limV l)) (h':Row w a' (limV m)) :
  Calls Tryz.prog 220 #[.slice a l.length c,.slice a' m.length c'] w fun e w'=>∃ v,e=.returned v∧MagO w' w.heap.size v (lim (val l*val m))∧Ext w w':=by
 obtain ⟨b,off,ha,hc⟩:=h;obtain ⟨b',off',ha',hc'⟩:=h';replace ha:=mK ha;replace hc:=mK hc;replace ha':=mK ha';replace hc':=mK hc';have hmk:=fun w=>make32 (l.length+m.length) w (by omega);rw [show (((l.length+m.length:Nat)):Int)=(l.length:Int)+m.length by omega] at hmk;have hst:=mK (Pw l m);go_enter Tryz.func220,Tryz.ntmps220;go_wp2_with fail;go_loopw [6,7,8,9] (fun i _ _ _ wr=>∃ k q,k≤l.length∧i=.int .i64 (k:Nat)∧Blk wr w.heap.size q∧MulO l m q k∧Ext w wr) (fun i _ _ _ _=>l.length-(intOf i).toNat)
 case atStart=>exact ⟨0,_,Nat.zero_le _,rfl,Uz _ _,hst.out,(xR w).al _⟩
 case round=>
  obtain ⟨k,q,hk,rfl,hB,hmo,he⟩:=hrel;obtain ⟨wo,rfl⟩:=nmE (wr:World);replace hmo:=mK hmo;replace hB:=mK hB;replace he:=mK he;by_cases hkl:k<l.length
  ·have hA:=ha.out (At hkl)
   rw [hA];replace hA:=mK hA;have hu:=Ag okl k;obtain ⟨u,hu'⟩:∃ u,u=l.getD k 0:=⟨_,rfl⟩
   rw [←hu'] at hu;have hi0:=mK (Px hmo.out);replace hu':=mK hu';have hkl':=mK hkl;go_wp2_with fail;go_loopw [7,8,9] (fun s i _ wr=>∃ kk cr q,kk≤m.length∧i=.int .i64 (kk:Nat)∧s=.int .u64 (cr:Nat)∧Blk wr w.heap.size q∧MulI l m q k kk cr∧Ext w wr) (fun _ i _ _=>m.length-(intOf i).toNat)
   case atStart=>exact ⟨0,0,q,Nat.zero_le _,rfl,rfl,hB.out,hi0.out,he.out⟩
   case round=>
    obtain ⟨kk,cr,q,hkk,rfl,rfl,hB,hmi,he⟩:=hrel;have hq1:=hmi.1;have hcr:=hmi.2.2.1;by_cases hkk2:kk<m.length
    ·have h1:=he.cell (Bx hc.out hkl'.out)
     have h2:=he.cell (Bx hc'.out hkk2);rw [←hu'.out] at h1;have hA':=ha'.out (At hkk2);have hv:=Ag okm kk;have hold:=hB.cell (k:=k+kk) (by omega);have hfr:=hB.frozen (k+kk);have ho:=Ag hmi.2.1 (k+kk);have hnext:=Sn hmi hkl'.out hkk2 okl okm;rw [←hu'.out] at hnext;have hb:=Pv hu hv ho hcr;obtain ⟨R,hR⟩:=nmE (cr+(u*m.getD kk 0+q.getD (k+kk) 0));rw [←hR] at hnext;have hset:=hB.set (k+kk) (R%4294967296);have hes:=he.st (p:=⟨w.heap.size,k+kk,none⟩) (nR _) (.int .u32 ((R%4294967296:Nat):Int))
     have hRD:((R%4294967296:Nat):Int)=((u:Int)*(m.getD kk 0:Nat)+(q.getD (k+kk) 0:Nat)+cr)%4294967296:=by
      rw [hR];simp only [Int.natCast_emod,Int.natCast_add,Int.natCast_mul];congr 1;omega
     have hRQ:((R/4294967296:Nat):Int)=((u:Int)*(m.getD kk 0:Nat)+(q.getD (k+kk) 0:Nat)+cr)/4294967296:=by
      rw [hR];simp only [Int.natCast_ediv,Int.natCast_add,Int.natCast_mul];congr 1;omega
     rw [hRD] at hset hes;replace hRD:=mK hRD;replace hRQ:=mK hRQ;rw [hA'];replace hA':=mK hA';replace hnext:=mK hnext;replace hmi:=mK hmi;replace hset:=mK hset;replace hes:=mK hes;replace he:=mK he;replace hB:=mK hB;generalize m.getD kk 0=v at *;generalize q.getD (k+kk) 0=o at *;replace hR:=mK hR;go_wp2_with fail;go_quiet (fail);go_wp2_with fail;go_roundw
     case rel=>exact ⟨kk+1,R/4294967296,_,by omega,by go_num,by rw [hRQ.out],hset.out,hnext.out,hes.out.drN _⟩
     case measure=>simp [intOf]<;>omega
    ·obtain rfl:kk=m.length:=by omega
     have hend:=mK (Wp hmi hkl'.out);have hold:=hB.cell (k:=k+m.length) (by omega);have hfr:=hB.frozen (k+m.length);have hset:=mK (hB.set (k+m.length) cr);have hes:=mK (he.st (p:=⟨w.heap.size,k+m.length,none⟩) (nR _) (.int .u32 (cr:Int)));replace hmi:=mK hmi;replace he:=mK he;replace hB:=mK hB;go_wp2_with fail;go_roundw
     case rel=>exact ⟨k+1,_,by omega,by go_num,hset.out,hend.out,hes.out⟩
     case measure=>simp [intOf]<;>omega
  ·obtain rfl:k=l.length:=by omega
   obtain ⟨x1,x2,x3⟩:=hmo.out;rw [List.take_length,List.take_of_length_le (by omega)] at x3;have hown:=hB.out.own (by omega);obtain ⟨aa,cc,he0,hle,hrow⟩:=hown.r;simp only [Value.slice.injEq] at he0;obtain ⟨rfl,-,rfl⟩:=he0;have hres:=hown.lim x2;have hcall:=fun w' (e:Row w' (some ⟨w.heap.size,0,none⟩) (limV q))=>Fv (some ⟨w.heap.size,0,none⟩) q q.length w' x2 (by omega) hle e;rw [x3] at hres hcall;rw [x1] at hcall hres;replace hcall:=mK hcall;replace hres:=mK hres;replace hrow:=mK hrow;replace x1:=mK x1;replace x3:=mK x3;clear hown;go_wp2_with fail;refine (hcall.out _ hrow.out).mono ?_;rintro e w' ⟨rfl,rfl⟩;go_wp2_with fail;go_ret;exact ⟨_,rfl,hres.out,he.out⟩
theorem Abb (w:World)(T:Nat)(n:Nat):Row (w.alloc (.cells #[.int .u32 (n:Int)] T)) (some ⟨w.heap.size,0,none⟩) (limV [n]):=by
 refine ⟨w.heap.size,0,fun _=>rfl,fun j hj=>?_⟩;have:j=0:=by simp [limV] at hj;omega
 subst this;unfold World.cell?
 simp only [Nat.zero_add,heap_alloc_new];rfl
theorem Tn (n:Nat):val [n]=n:=by simp [val]
theorem Pf (a:Option Addr)(c:Nat)(l:List Nat)(n:Nat)(w:World)(hl:l.length≤1073741824)(okl:OkL l)(hn:n<4294967296)(h:Row w a (limV l)) :
  Calls Tryz.prog 278 #[.slice a l.length c,.int .u32 n] w fun e w'=>∃ v,e=.returned v∧MagO w' w.heap.size v (lim (val l*n))∧Ext w w':=by
 have okn:OkL [n]:=fun x hx=>by simp at hx;omega
 have hr:=Abb w 136 n;have htr:=Fv (some ⟨w.heap.size,0,none⟩) [n] 1 _ okn (by simp) (by simp) hr;have hle:=Cs okn;rw [Tn] at htr hle;simp only [List.length_singleton] at hle;have hr2:=hr.lim okn;rw [Tn] at hr2;have hml:=Aeu a (some ⟨w.heap.size,0,none⟩) c 1 l (lim n) _ hl (by omega) okl (Ap n) (h.ext ((xR w).al _)) hr2;rw [Aj] at hml;replace htr:=mK htr;replace hml:=mK hml;clear hr hr2 okn;go_enter Tryz.func278,Tryz.ntmps278;go_wp2_with fail;refine htr.out.mono ?_;rintro e w' ⟨rfl,rfl⟩;go_wp2_with fail;refine hml.out.mono ?_;rintro e w' ⟨v,rfl,h1,h2⟩;replace h1:=mK (h1.mono (show w.heap.size≤_ by simp));replace h2:=mK (((xR w).al _).trans h2);go_wp2_with fail;go_ret;exact ⟨v,rfl,h1.out,h2.out⟩
end Go.Proofs.YteogdoglboddhaaGreatDoor
