/-
  exact: Common. exact: Check, of whatever limbs. exact: Long. ratio: turned, and what a fraction in memory is. ratio: Lowest. ratio: Times, Plus, Minus, Cmp, Turned, Copy: printed by tools/gen_ratio.py. ratio: Turned, Copy: printed by tools/gen_ratio.py. ratio: Small, One, Nought, Sign, Check.
-/
import Derived.Test.YtlknpnommcohkaaGreatDoorKAC
import Derived.Deep.LoopGhost
import Derived.LoopN
set_option maxHeartbeats 6400000
namespace Go.Proofs.YtlknpnommcohkaaGreatDoor
set_option maxRecDepth 100000
open Go Go.RowKit Go.Proofs
theorem Aet (v:Value)(s:Value)(b:Bool)(X:Int)(w:World)(hX:nl X≤1073741824)(hv:v=.agg #[.bool b,s])(h:IntR w v X) :
  Calls Tryz.prog 226 #[.bool false,s] w fun e w'=>∃ b' a' n' c',e=.returned (.agg #[.bool b',.slice a' n' c'])∧IntO w' w.heap.size (.agg #[.bool b',.slice a' n' c']) X.natAbs∧Ext w w':=by
 obtain ⟨s1,h1,a,c,rfl,_,r⟩:=h;rw [h1] at hv;simp only [Value.agg.injEq,Array.mk.injEq,List.cons.injEq,and_true] at hv;obtain ⟨_,rfl⟩:=hv;refine (Aeu false a _ c w (By _) (by unfold nl at *;omega) r).mono ?_;rintro e w' ⟨v,rfl,hi,hE⟩;have e1:sg false (val (lim X.natAbs))=(X.natAbs:Int):=by unfold sg;simp [Bn]
 rw [e1] at hi;obtain ⟨b',a',n',c',rfl⟩:=hi.r.shape;exact ⟨_,_,_,_,rfl,hi,hE⟩
theorem IntO.row_type {w:World}{base g T:Nat}{fr:Nat×Nat}{v:Value}{x:Int}{old:Array Value}(h:IntO w base v x)(hg:w.heap[g]? = some (.cells old T fr))(hT:T≠150)(cs:Array Value):IntO (w.setRow g cs) base v x:=by
 obtain ⟨s,h1,h2⟩:=h;refine ⟨s,h1,?_⟩;obtain ⟨h3,h4⟩:=h2;refine ⟨h3,?_⟩;rcases h4 with h4|⟨k,cap,cur,a1,a2,a3,a4⟩
 ·exact .inl h4
 ·refine .inr ⟨k,cap,cur,a1,a2,?_,a4⟩
  have hne:k≠g:=by
   intro e;subst e;rw [a3] at hg;simp only [Option.some.injEq,Obj.cells.injEq] at hg;exact hT hg.2.1.symm
  rw [setRow_other _ _ _ _ hne];exact a3
theorem Fs {w:World}{g T:Nat}{c:Array Value}(h:w.heap[g]? = some (.cells c T (0,0)))(k:Nat):w.frozen? ⟨g,k,none⟩=false:=by
 simp [World.frozen?,h]
theorem Qv {w:World}{g T:Nat}{fr:Nat×Nat}{x y u v:Value}(h:w.heap[g]? = some (.cells #[x,y] T fr)):(w.setCell ⟨g,0,none⟩ u).setCell ⟨g,1,none⟩ v=w.setRow g #[u,v]:=by
 have e:((w.setCell ⟨g,0,none⟩ u).setCell ⟨g,1,none⟩ v).heap=(w.setRow g #[u,v]).heap:=by
  refine Array.ext_getElem? fun k=>?_;unfold World.setCell World.setRow;simp only [Array.getElem?_modify];by_cases hk:g=k
  ·subst hk
   simp [h]
  ·simp [hk]
 unfold World.setCell World.setRow at *;simpa using e
theorem Am {w:World}{g T:Nat}{b:Bool}{a:Option Addr}{n c:Nat}(h:w.heap[g]? = some (.cells #[.bool b,.slice a n c] T (0,0))):w.cell? ⟨g,0,none⟩=some (.bool b)∧w.cell? ⟨g,1,none⟩=some (.slice a n c):=by
 constructor<;>simp [World.cell?,h]
def ComI (w:World)(g5 g6:Nat)(G:Nat)(k:Nat)(wr:World):Prop:=
 ∃ (A:Nat) (ba bb:Bool) (aa ab:Option Addr) (na nb ca cb:Nat),wr.heap[g5]? = some (.cells #[.bool ba,.slice aa na ca] 26 (0,0))∧wr.heap[g6]? = some (.cells #[.bool bb,.slice ab nb cb] 26 (0,0)) ∧
  IntO wr (w.heap.size+3) (.agg #[.bool ba,.slice aa na ca]) (A:Nat)∧IntO wr (w.heap.size+3) (.agg #[.bool bb,.slice ab nb cb]) (k:Nat)∧Nat.gcd A k=G∧nl (A:Nat)≤1073741824∧nl (k:Nat)≤1073741824∧Ext w wr∧wr.heap[w.heap.size+2]? = some (.cells #[.bool false,.slice none 0 0] 26 (0,0))
theorem Ab1 {w:World}{b:Bool}{a:Option Addr}{n c k:Nat}(h:IntR w (.agg #[.bool b,.slice a n c]) (k:Nat)):n=(lim k).length:=by
 obtain ⟨s,h1,a',c',rfl,_,_⟩:=h;simp only [Value.agg.injEq,Array.mk.injEq,List.cons.injEq,Value.slice.injEq,and_true] at h1;simpa using h1.2.2.1
theorem Mm (v1 v2:Value)(X Y:Int)(w:World)(hX:nl X≤1073741824)(hY:nl Y≤1073741824)(h1:IntR w v1 X)(h2:IntR w v2 Y) :
  Calls Tryz.prog 173 #[v1,v2] w fun e w'=>∃ v,e=.returned v∧Ext w w'∧IntO w' w.heap.size v (Int.gcd X Y:Nat):=by
 have H1:=mK h1;have H2:=mK h2;obtain ⟨bx,a1,n1,c1,rfl⟩:=h1.shape;obtain ⟨bY,a2,n2,c2,rfl⟩:=h2.shape;have o1:=mK (fun w h=>Aet (.agg #[.bool bx,.slice a1 n1 c1]) _ bx X w hX rfl h);have o2:=mK (fun w h=>Aet (.agg #[.bool bY,.slice a2 n2 c2]) _ bY Y w hY rfl h);clear h1 h2;go_enter Tryz.func173,Tryz.ntmps173;go_wp2_with fail;obtain ⟨wb,hwb⟩:=nmE (((w.alloc (.cells #[.bool bx,.slice a1 n1 c1] 26)).alloc (.cells #[.bool bY,.slice a2 n2 c2] 26)).alloc (.cells #[.bool false,.slice none 0 0] 26));have hE:=aLe3 hwb;have h01:wb.cell? ⟨w.heap.size,1,none⟩=some (.slice a1 n1 c1):=by rw [hwb];go_simp
 have h11:wb.cell? ⟨w.heap.size+1,1,none⟩=some (.slice a2 n2 c2):=by rw [hwb];go_simp
 have hB:=mK (aL32 hwb);have hsz:w.heap.size+3≤wb.heap.size:=by rw [hwb];simp
 have H1b:=mK (H1.out.ext hE);have H2b:=mK (H2.out.ext hE);rw [←hwb];replace hE:=mK hE;clear hwb H1 H2;have k01:=fun w' (h:Ext wb w')=>h.cell h01;have k11:=fun w' (h:Ext wb w')=>h.cell h11
 apply Pb [.val _,.val _,.pred (fun W v=>IntO W (w.heap.size+3) v X.natAbs),.val _,.val _,.pred (fun W v=>IntO W (w.heap.size+3) v Y.natAbs),.fresh (VarAt (w.heap.size+3) #[.bool false,.slice none 0 0] 26),.fresh (VarAt (w.heap.size+3) #[.bool false,.slice none 0 0] 26)] (by kernel_rfl)
  (Fresh.stable_vals _ (Fresh.stable_vals _ (Sd _ _ (Fresh.stable_vals _ (Fresh.stable_vals _ (Sd _ _ (Ws _ _ _ (Ws _ _ _ trivial))))))))
 ·iterate 2 (refine ⟨fun W hW _=>by go_simp;exact ⟨xR _,rfl⟩,?_⟩)
  refine ⟨fun W hW hF=>?g2,fun v2=>?_⟩
  case g2=>
   go_simp;refine (o1.out W (H1b.out.ext hW)).mono ?_;rintro e w' ⟨b',a',n',c',rfl,h1,h2⟩;exact ⟨_,rfl,h2,h1.mono (nT hsz hW.size)⟩
  iterate 2 (refine ⟨fun W hW _=>by go_simp;exact ⟨xR _,rfl⟩,?_⟩)
  refine ⟨fun W hW hF=>?g5,fun v5=>?_⟩
  case g5=>
   go_simp;refine (o2.out W (H2b.out.ext hW)).mono ?_;rintro e w' ⟨b',a',n',c',rfl,h1,h2⟩;exact ⟨_,rfl,h2,h1.mono (nT hsz hW.size)⟩
  refine ⟨fun W hW hF=>?g6,fun v6=>⟨fun W hW hF=>?g7,fun v7=>fun W hW hF hAp=>?fin⟩⟩
  case g6=>
   have hnv:=mK (Wd (b:=w.heap.size+3) (cs:=#[.bool false,.slice none 0 0]) (T:=26) W (nT hsz hW.size));go_simp;exact ⟨hnv.out.1,hnv.out.2.1,hnv.out.2.2⟩
  case g7=>
   have hnv:=mK (Wd (b:=w.heap.size+3) (cs:=#[.bool false,.slice none 0 0]) (T:=26) W (nT hsz hW.size));go_simp;exact ⟨hnv.out.1,hnv.out.2.1,hnv.out.2.2⟩
  case fin=>
   obtain ⟨f7,f6,f5,f2,-⟩:=hF;obtain ⟨⟨g6,rfl,hg6b,hg6⟩,_⟩:=f7 rfl;obtain ⟨⟨g5,rfl,hg5b,hg5⟩,_⟩:=f6 rfl;have hI5:IntO W (w.heap.size+3) v5 Y.natAbs:=f5 rfl;have hI2:IntO W (w.heap.size+3) v2 X.natAbs:=f2 rfl
   have hne:g5≠g6:=by
    intro e;exact hAp _ _ (List.mem_cons_self ..) (List.mem_cons_of_mem _ (List.mem_cons_self ..)) rfl rfl (by simp) g6 (Wz g6) (by rw [←e];exact Wz g5)
   obtain ⟨b2,x2,y2,z2,rfl⟩:=hI2.r.shape;obtain ⟨b5,x5,y5,z5,rfl⟩:=hI5.r.shape;have hrows:=Fe W g5 g6 #[.bool b2,.slice x2 y2 z2] #[.bool b5,.slice x5 y5 z5] _ _ _ hne hg5 hg6;have J2:=(hI2.row_type hg5 (by decide) #[.bool b2,.slice x2 y2 z2]).row_type hrows.2.2 (by decide) #[.bool b5,.slice x5 y5 z5];have J5:=(hI5.row_type hg5 (by decide) #[.bool b2,.slice x2 y2 z2]).row_type hrows.2.2 (by decide) #[.bool b5,.slice x5 y5 z5];have hEW:=(((hE.out.trans hW).row (show w.heap.size≤g5 by omega) #[.bool b2,.slice x2 y2 z2])).row (show w.heap.size≤g6 by omega) #[.bool b5,.slice x5 y5 z5]
   have hBW:((W.setRow g5 #[.bool b2,.slice x2 y2 z2]).setRow g6 #[.bool b5,.slice x5 y5 z5]).heap[w.heap.size+2]? = some (.cells #[.bool false,.slice none 0 0] 26 (0,0)):=by
    rw [setRow_other _ _ _ _ (by omega),setRow_other _ _ _ _ (by omega)];exact hW.blk hB.out
   have hst:ComI w g5 g6 (Int.gcd X Y) Y.natAbs ((W.setRow g5 #[.bool b2,.slice x2 y2 z2]).setRow g6 #[.bool b5,.slice x5 y5 z5]):=
    ⟨X.natAbs,b2,b5,x2,x5,y2,y5,z2,z5,hrows.1,hrows.2.1,J2,J5,rfl,by unfold nl at *;simpa using hX,by unfold nl at *;simpa using hY,hEW,hBW⟩
   replace hst:=mK hst;replace hrows:=mK hrows;replace hg5:=mK hg5;replace hne:=mK hne;clear J2 J5 hEW hBW hI2 hI5 f7 f6 f5 f2 hAp hg6 hW k01 k11 o1 o2 h01 h11 hE hB H1b H2b;go_simp
   go_wp2_with (first
    | (refine wpList_store_row rfl 26 (.tmp 5) (.tmp 11) rfl g5 #[.bool b2,.slice x2 y2 z2] rfl rfl 26 _ hg5.out (by kernel_rfl) rfl (by kernel_rfl) ?_)
    | (refine wpList_store_row rfl 26 (.tmp 6) (.tmp 14) rfl g6 #[.bool b5,.slice x5 y5 z5] rfl rfl 26 _ hrows.out.2.2 (by kernel_rfl) rfl (by kernel_rfl) ?_))
   clear hrows hg5;go_loopg [] Y.natAbs (fun k wr=>ComI w g5 g6 (Int.gcd X Y) k wr)
   case atStart=>exact hst.out
   case round=>
    clear hst;obtain ⟨A,ba,bb,aa,ab,na,nb,ca,cb,hA,hBb,iA,iB,hG,lA,lB,hEr,hBr⟩:=hrel;have cA:=Am hA;have cB:=Am hBb;have hnb:=Ab1 iB.r;obtain ⟨b',hb'⟩:∃ b',b'=w.heap.size:=⟨_,rfl⟩
    by_cases h0:gk=0
    ·subst h0
     rw [Az] at hnb;subst hnb
     have hfin:IntO (wr.setRow (w.heap.size+2) #[.bool ba,.slice aa na ca]) w.heap.size (.agg #[.bool ba,.slice aa na ca]) (Int.gcd X Y:Nat):=by
      rw [←hG,Nat.gcd_zero_right];exact (iA.row_type hBr (by decide) _).mono (by omega)
     have hEf:=mK (hEr.row (show w.heap.size≤w.heap.size+2 by omega) #[.bool ba,.slice aa na ca]);replace hfin:=mK hfin;replace hBr:=mK hBr
     go_wp2_with (first
      | (refine wpList_store_row rfl 26 (.tmp 4) (.tmp 27) rfl (w.heap.size+2) #[.bool ba,.slice aa na ca] rfl rfl 26 _ hBr.out (by kernel_rfl) rfl (by kernel_rfl) ?_))
     exact bodyPost_ret (results_cell_row rfl _ _ (w.heap.size+2) 26 #[.bool ba,.slice aa na ca] (0,0) _ rfl (setRow_heap _ _ _ _ _ _ hBr.out) Tryz.underlying26 rfl (by kernel_rfl)) rfl ⟨_,rfl,hEf.out,hfin.out⟩
    ·have hpos:0<nb:=by
      rw [hnb,Cg h0];simp
     have hdv:=Aca _ _ (A:Int) (gk:Int) wr lA lB (by omega) iA.r iB.r;subst hnb;replace hdv:=mK hdv;replace hEr:=mK hEr;replace hBr:=mK hBr;replace iB:=mK iB;replace hA:=mK hA;replace hBb:=mK hBb;clear iA;go_wp2_with fail;refine hdv.out.mono ?_;rintro e w5 ⟨q,r,rfl,hE5,hq,hr⟩;obtain ⟨bq,aq,nq,cq,rfl⟩:=hq.r.shape;obtain ⟨br,ar,nr,cr,rfl⟩:=hr.r.shape;replace hr:=mK hr;have hE5':=mK hE5;clear hq hdv cA cB hE5;go_wp2_with fail;obtain ⟨w6,hw6⟩:=nmE ((w5.alloc (.cells #[.bool bq,.slice aq nq cq] 26)).alloc (.cells #[.bool br,.slice ar nr cr] 26));have hE6:Ext wr w6:=by rw [hw6];exact (hE5'.out.al _).al _
     have hE56:=aLe2 hw6;have hb8:=aL21 hw6;have hb5:=mK (hE6.blk hA.out);have hb6:=hE6.blk hBb.out;have cB:=Am hb6;have c8:=Am hb8;rw [←hw6];replace hw6:=mK hw6;replace hb6:=mK hb6;clear hb8;have hgl:g6<wr.heap.size:=(Array.getElem?_eq_some_iff.1 hBb.out).1;have cA:=Am hb5.out;obtain ⟨cA1,cA2⟩:=cA;obtain ⟨cB1,cB2⟩:=cB;obtain ⟨c81,c82⟩:=c8;have d1:g6≠g5:=Ne.symm hne.out;have d2:w5.heap.size+1≠g5:=by have:=hE5'.out.size;have:g5<wr.heap.size:=(Array.getElem?_eq_some_iff.1 hA.out).1;omega
     have hne':=hne.out;have f50:=Fs hb5.out 0;have f51:=Fs hb5.out 1;have f60:=Fs hb6.out 0;have f61:=Fs hb6.out 1;go_region;rw [Qv hb5.out,Qv ((setRow_other _ _ _ _ d1).trans hb6.out)];clear cA1 cA2 cB1 cB2 c81 c82 f50 f51 f60 f61 d1 d2
     have hrr:IntO w6 (w.heap.size+3) (.agg #[.bool br,.slice ar nr cr]) ((A%gk:Nat):Int):=by
      have:=(hr.out.ext hE56).mono (show w.heap.size+3≤wr.heap.size by omega)
      rwa [Int.ofNat_tmod]
     have hBB:IntO w6 (w.heap.size+3) (.agg #[.bool bb,.slice ab (lim gk).length cb]) (gk:Int):=iB.out.ext hE6;have hrows:=Fe w6 g5 g6 #[.bool bb,.slice ab (lim gk).length cb] #[.bool br,.slice ar nr cr] _ _ _ hne.out hb5.out hb6.out;have J2:=(hBB.row_type hb5.out (by decide) #[.bool bb,.slice ab (lim gk).length cb]).row_type hrows.2.2 (by decide) #[.bool br,.slice ar nr cr];have J5:=(hrr.row_type hb5.out (by decide) #[.bool bb,.slice ab (lim gk).length cb]).row_type hrows.2.2 (by decide) #[.bool br,.slice ar nr cr];have hEF:=(((hEr.out.trans hE6).row (show w.heap.size≤g5 by omega) #[.bool bb,.slice ab (lim gk).length cb])).row (show w.heap.size≤g6 by omega) #[.bool br,.slice ar nr cr]
     have hBW:((w6.setRow g5 #[.bool bb,.slice ab (lim gk).length cb]).setRow g6 #[.bool br,.slice ar nr cr]).heap[w.heap.size+2]? = some (.cells #[.bool false,.slice none 0 0] 26 (0,0)):=by
      rw [setRow_other _ _ _ _ (by omega),setRow_other _ _ _ _ (by omega)];exact hE6.blk hBr.out
     have hlt:A%gk<gk:=Nat.mod_lt _ (by omega);have hlr:nl ((A%gk:Nat):Int)≤1073741824:=nT (Cq (show ((A%gk:Nat):Int).natAbs≤(gk:Int).natAbs by rw [Int.natAbs_natCast,Int.natAbs_natCast];omega)) lB;have hdr:=(xR ((w6.setRow g5 #[.bool bb,.slice ab (lim gk).length cb]).setRow g6 #[.bool br,.slice ar nr cr])).dr
     have hst:ComI w g5 g6 (Int.gcd X Y) (A%gk) ((w6.setRow g5 #[.bool bb,.slice ab (lim gk).length cb]).setRow g6 #[.bool br,.slice ar nr cr]).drew:=
      ⟨gk,bb,br,ab,ar,(lim gk).length,nr,cb,cr,hrows.1,hrows.2.1,J2.ext hdr,J5.ext hdr,by rw [Nat.gcd_comm,←Nat.gcd_rec,Nat.gcd_comm];exact hG,lB,hlr,hEF.dr,hBW⟩
     clear J2 J5 hEF hBW hBB hrr hdr hrows hr hb5 hb6 iB hA hBb hE6 hE56 hlr;replace hst:=mK hst;replace hlt:=mK hlt;go_wp2_with fail;go_roundg (A%gk)
     case measure=>exact hlt.out
     case rel=>exact hst.out
def AnyR (w:World)(v:Value)(b:Bool)(l:List Nat):Prop:=∃ a c,v=.agg #[.bool b,.slice a l.length c]∧OkL l∧l.length≤c∧Row w a (limV l)
def Ed (b:Bool)(l:List Nat):Bool:=decide (l.length≤2048)&&(decide (l=[])||decide (l.getLastD 0≠0))&&(decide (l≠[]) || !b)
theorem AnyR.ext {w w':World}{v:Value}{b:Bool}{l:List Nat}(h:AnyR w v b l)(e:Ext w w'):AnyR w' v b l:=by
 obtain ⟨a,c,h1,h2,hc,h3⟩:=h;exact ⟨a,c,h1,h2,hc,h3.ext e⟩
theorem Abv {l:List Nat}(okl:OkL l)(h:l.getLastD 0≠0):val l≠0:=by
 intro h0;have e:=Pp okl (.inr h);rw [h0,Az] at e;subst e;exact h rfl
theorem Lg {w:World}{v:Value}{b:Bool}{l:List Nat}(h:AnyR w v b l)(g:Ed b l=true):IntR w v (sg b (val l))∧nl (sg b (val l))≤2048:=by
 obtain ⟨a,c,rfl,okl,hc,r⟩:=h;unfold Ed at g;simp only [Bool.and_eq_true,Bool.or_eq_true,decide_eq_true_eq,Bool.not_eq_true'] at g;obtain ⟨⟨g1,g2⟩,g3⟩:=g;have e:=Pp okl g2;have en:(sg b (val l)).natAbs=val l:=by unfold sg;split<;>simp
 have es:decide (sg b (val l)<0)=b:=by
  cases b
  ·unfold sg;simp
  ·have h0:l≠[]:=by simpa using g3
   have h1:val l≠0:=Abv okl (g2.resolve_left h0);unfold sg;simp;omega
 unfold nl;rw [en,e];refine ⟨⟨_,by rw [es],?_⟩,g1⟩;rw [en,e];exact ⟨a,c,rfl,hc,r⟩
theorem Wq {w:World}{v:Value}{X:Int}(h:IntR w v X):AnyR w v (decide (X<0)) (lim X.natAbs):=by
 obtain ⟨s,rfl,a,c,rfl,hc,r⟩:=h;exact ⟨a,c,rfl,By _,hc,r⟩
theorem Mj {X:Int}(h:nl X≤2048):Ed (decide (X<0)) (lim X.natAbs)=true:=by
 unfold Ed nl at *;by_cases h0:X=0
 ·subst h0
  simp [Az]
 ·have hn:X.natAbs≠0:=by omega
  have h1:lim X.natAbs≠[]:=by rw [Cg hn];simp
  have h2:=Wi hn
  have h3:(lim X.natAbs).getLastD 0=(lim X.natAbs).getD ((lim X.natAbs).length-1) 0:=by
   rw [List.getLastD_eq_getLast?,List.getLast?_eq_getElem?,List.getD_eq_getElem?_getD]
  rw [h3];simp only [Bool.and_eq_true,Bool.or_eq_true,decide_eq_true_eq];exact ⟨⟨h,.inr (by omega)⟩,.inl h1⟩
theorem Ld (v:Value)(b:Bool)(l:List Nat)(w:World)(hl:l.length≤4294967296)(h:AnyR w v b l) :
  Calls Tryz.prog 171 #[v] w fun e w'=>e=.returned (.int .i64 (if Ed b l then 0 else 1))∧Ext w w':=by
 obtain ⟨a,c,rfl,okl,_,r⟩:=h;by_cases h1:2048<l.length
 ·have hg:Ed b l=false:=by unfold Ed;simp;omega
  rw [hg];clear hg r;go_enter Tryz.func171,Tryz.ntmps171;go_wp2_with fail;go_ret;exact ⟨rfl,(xR _).al _⟩
 ·by_cases h2:l=[]
  ·subst h2
   clear r h1 hl;cases b
   ·have hg:Ed false []=true:=rfl
    rw [hg];clear hg;go_enter Tryz.func171,Tryz.ntmps171;go_wp2_with fail;go_ret;exact ⟨rfl,(xR _).al _⟩
   ·have hg:Ed true []=false:=rfl
    rw [hg];clear hg;go_enter Tryz.func171,Tryz.ntmps171;go_wp2_with fail;go_ret;exact ⟨rfl,(xR _).al _⟩
  ·obtain ⟨g,off,ha,hc⟩:=r
   have h0:0<l.length:=by cases l with|nil=>exact absurd rfl h2|cons x y=>simp
   have hcell:w.cell? ⟨g,off+(l.length-1),none⟩=some (.int .u32 (l.getD (l.length-1) 0:Nat)):=by
    rw [hc _ (by rw [Cc];omega),Dg _ _ (by omega)]
   have hgl:=As okl (l.length-1);have hi:((l.length:Int)-1)=((l.length-1:Nat):Int):=by omega
   obtain rfl:=ha (by intro e;have:=congrArg List.length e;rw [Cc] at this;simp at this;exact h2 this)
   have hlt:(w.heap.size=g)=False:=by
    have:=Du hcell;simp at this;exact eq_false (by omega)
   have hgd:Ed b l=decide (l.getD (l.length-1) 0≠0):=by
    have h3:l.getLastD 0=l.getD (l.length-1) 0:=by
     rw [List.getLastD_eq_getLast?,List.getLast?_eq_getElem?,List.getD_eq_getElem?_getD]
    unfold Ed;rw [h3];simp [h2];omega
   rw [hgd];clear hgd hc;generalize l.getD (l.length-1) 0=x at *;have hcell2:(w.alloc (.cells #[.bool b,.slice (some ⟨g,off,none⟩) l.length c] 26)).cell? ⟨g,off+(l.length-1),none⟩=some (.int .u32 (x:Nat)):=((xR w).al _).cell hcell;clear hcell ha hlt;by_cases hx:x=0
   ·subst hx
    go_enter Tryz.func171,Tryz.ntmps171;go_wp2_with fail;go_ret;exact ⟨rfl,(xR _).al _⟩
   ·have hx2:((x:Int)==0)=false:=by rw [beq_eq_false_iff_ne];omega
    rw [if_pos (show decide (x≠0)=true by simpa using hx)];go_enter Tryz.func171,Tryz.ntmps171;go_wp2_with fail;go_ret;exact ⟨rfl,(xR _).al _⟩
theorem Adt (b:Bool)(a:Option Addr)(n c:Nat)(w:World)(hn:n≤4294967296) :
  Calls Tryz.prog 302 #[.agg #[.bool b,.slice a n c]] w fun e w'=>e=.returned (.bool (decide (2048<n)))∧Ext w w':=by
 go_enter Tryz.func302,Tryz.ntmps302;go_wp2_with fail;go_ret;exact ⟨Ac8 (decide_eq_decide.2 (by omega)),(xR _).al _⟩
theorem Ab3 (g:Nat)(b:Bool)(a:Option Addr)(n c cap:Nat)(w:World)(hn:n≤4294967296)(h0:w.cell? ⟨g,0,none⟩=some (.bool b))(h1:w.cell? ⟨g,1,none⟩=some (.slice a n c)) :
  Calls Tryz.prog 315 #[.slice (some ⟨g,0,none⟩) 1 cap,.func (.func 302) #[] #[]] w fun e w'=>e=.returned (.int .i64 (if 2048<n then 0 else -1))∧Ext w w':=by
 have hl:=mK (fun w=>Adt b a n c w hn);by_cases hlt:2048<n
 ·rw [if_pos hlt]
  replace hl:=mK (fun w=>(hl.out w));go_enter Tryz.func315,Tryz.ntmps315;go_wp2_with fail;refine wp_loop_rounds 2 ?_;rw [rounds_succ];go_wp2_with fail;refine (hl.out _).mono ?_;rintro e w' ⟨rfl,hE⟩;go_wp2_with fail;go_ret;exact ⟨rfl,hE⟩
 ·rw [if_neg hlt]
  go_enter Tryz.func315,Tryz.ntmps315;go_wp2_with fail;refine wp_loop_rounds 2 ?_;rw [rounds_succ];go_wp2_with fail;refine (hl.out _).mono ?_;rintro e w' ⟨rfl,hE⟩;go_wp2_with fail;rw [rounds_succ];go_wp2_with fail;go_ret;exact ⟨rfl,hE⟩
theorem Sn (g:Nat)(b:Bool)(a:Option Addr)(n c cap:Nat)(w:World)(hn:n≤4294967296)(h0:w.cell? ⟨g,0,none⟩=some (.bool b))(h1:w.cell? ⟨g,1,none⟩=some (.slice a n c)) :
  Calls Tryz.prog 301 #[.slice (some ⟨g,0,none⟩) 1 cap,.func (.func 302) #[] #[]] w fun e w'=>e=.returned (.bool (decide (2048<n)))∧Ext w w':=by
 have hl:=mK (Ab3 g b a n c cap w hn h0 h1);go_enter Tryz.func301,Tryz.ntmps301;go_wp2_with fail;refine hl.out.mono ?_;rintro e w' ⟨rfl,hE⟩;have hd:decide ((0:Int)≤(if 2048<n then 0 else -1))=decide (2048<n):=by by_cases h:2048<n<;>simp [h]
 generalize (if 2048<n then (0:Int) else -1)=r at *;go_wp2_with fail;go_ret;exact ⟨rfl,hE⟩
theorem Abp (g:Nat)(b:Bool)(a:Option Addr)(n c cap:Nat)(w:World)(hn:n≤4294967296)(h0:w.cell? ⟨g,0,none⟩=some (.bool b))(h1:w.cell? ⟨g,1,none⟩=some (.slice a n c)) :
  Calls Tryz.prog 270 #[.slice (some ⟨g,0,none⟩) 1 cap] w fun e w'=>e=.returned (.bool (decide (2048<n)))∧Ext w w':=by
 have hl:=mK (Sn g b a n c cap w hn h0 h1);go_enter Tryz.func270,Tryz.ntmps270;go_wp2_with fail;refine hl.out.mono ?_;rintro e w' ⟨rfl,hE⟩;go_wp2_with fail;go_ret;exact ⟨rfl,hE⟩
def FracR (w:World)(v:Value)(q:Rat):Prop:=
 ∃ b1 a1 n1 c1 b2 a2 n2 c2,v=.agg #[.bool b1,.slice a1 n1 c1,.bool b2,.slice a2 n2 c2]∧IntR w (.agg #[.bool b1,.slice a1 n1 c1]) q.num∧IntR w (.agg #[.bool b2,.slice a2 n2 c2]) (q.den:Int)
def FracO (w:World)(base:Nat)(v:Value)(q:Rat):Prop:=
 ∃ b1 a1 n1 c1 b2 a2 n2 c2,v=.agg #[.bool b1,.slice a1 n1 c1,.bool b2,.slice a2 n2 c2]∧IntO w base (.agg #[.bool b1,.slice a1 n1 c1]) q.num∧IntO w base (.agg #[.bool b2,.slice a2 n2 c2]) (q.den:Int)
theorem FracO.r {w:World}{base:Nat}{v:Value}{q:Rat}(h:FracO w base v q):FracR w v q:=by
 obtain ⟨b1,a1,n1,c1,b2,a2,n2,c2,h1,h2,h3⟩:=h;exact ⟨b1,a1,n1,c1,b2,a2,n2,c2,h1,h2.r,h3.r⟩
theorem FracR.ext {w w':World}{v:Value}{q:Rat}(h:FracR w v q)(e:Ext w w'):FracR w' v q:=by
 obtain ⟨b1,a1,n1,c1,b2,a2,n2,c2,h1,h2,h3⟩:=h;exact ⟨b1,a1,n1,c1,b2,a2,n2,c2,h1,h2.ext e,h3.ext e⟩
theorem FracO.ext {w w':World}{base:Nat}{v:Value}{q:Rat}(h:FracO w base v q)(e:Ext w w'):FracO w' base v q:=by
 obtain ⟨b1,a1,n1,c1,b2,a2,n2,c2,h1,h2,h3⟩:=h;exact ⟨b1,a1,n1,c1,b2,a2,n2,c2,h1,h2.ext e,h3.ext e⟩
theorem FracO.mono {w:World}{base base':Nat}{v:Value}{q:Rat}(h:FracO w base v q)(e:base'≤base):FracO w base' v q:=by
 obtain ⟨b1,a1,n1,c1,b2,a2,n2,c2,h1,h2,h3⟩:=h;exact ⟨b1,a1,n1,c1,b2,a2,n2,c2,h1,h2.mono e,h3.mono e⟩
theorem FracO.row {w:World}{base g:Nat}{v:Value}{q:Rat}(h:FracO w base v q)(hg:g<base)(cs:Array Value):FracO (w.setRow g cs) base v q:=by
 obtain ⟨b1,a1,n1,c1,b2,a2,n2,c2,h1,h2,h3⟩:=h;exact ⟨b1,a1,n1,c1,b2,a2,n2,c2,h1,h2.row hg cs,h3.row hg cs⟩
theorem FracO.row_type {w:World}{base g T:Nat}{fr:Nat×Nat}{v:Value}{q:Rat}{old:Array Value}(h:FracO w base v q)(hg:w.heap[g]? = some (.cells old T fr))(hT:T≠150)(cs:Array Value):FracO (w.setRow g cs) base v q:=by
 obtain ⟨b1,a1,n1,c1,b2,a2,n2,c2,h1,h2,h3⟩:=h;exact ⟨b1,a1,n1,c1,b2,a2,n2,c2,h1,h2.row_type hg hT cs,h3.row_type hg hT cs⟩
theorem FracR.shape {w:World}{v:Value}{q:Rat}(h:FracR w v q):∃ b1 a1 n1 c1 b2 a2 n2 c2,v=.agg #[.bool b1,.slice a1 n1 c1,.bool b2,.slice a2 n2 c2]:=by
 obtain ⟨b1,a1,n1,c1,b2,a2,n2,c2,h1,h2,h3⟩:=h;exact ⟨b1,a1,n1,c1,b2,a2,n2,c2,h1⟩
theorem FracR.num {w:World}{b1 b2:Bool}{a1 a2:Option Addr}{n1 c1 n2 c2:Nat}{q:Rat}(h:FracR w (.agg #[.bool b1,.slice a1 n1 c1,.bool b2,.slice a2 n2 c2]) q):IntR w (.agg #[.bool b1,.slice a1 n1 c1]) q.num:=by
 obtain ⟨x1,x2,x3,x4,x5,x6,x7,x8,h1,h2,h3⟩:=h;simp only [Value.agg.injEq,Array.mk.injEq,List.cons.injEq,and_true] at h1;obtain ⟨h4,h5,h6,h7⟩:=h1;rw [h4,h5];exact h2
theorem FracR.den {w:World}{b1 b2:Bool}{a1 a2:Option Addr}{n1 c1 n2 c2:Nat}{q:Rat}(h:FracR w (.agg #[.bool b1,.slice a1 n1 c1,.bool b2,.slice a2 n2 c2]) q):IntR w (.agg #[.bool b2,.slice a2 n2 c2]) (q.den:Int):=by
 obtain ⟨x1,x2,x3,x4,x5,x6,x7,x8,h1,h2,h3⟩:=h;simp only [Value.agg.injEq,Array.mk.injEq,List.cons.injEq,and_true] at h1;obtain ⟨h4,h5,h6,h7⟩:=h1;rw [h6,h7];exact h3
def nf (q:Rat):Nat:=max (nl q.num) (nl (q.den:Int))
theorem Gv (v:Value)(X:Int)(w:World)(hX:nl X≤1073741824)(h:IntR w v X) :
  Calls Tryz.prog 258 #[v] w fun e w'=>∃ v,e=.returned v∧Ext w w'∧IntO w' w.heap.size v (-X):=by
 have H1:=h;obtain ⟨b,a,n,c,rfl⟩:=h.shape;have h0:nl 0≤1073741824:=by unfold nl;simp [Az]
 have hm:=fun v0 w (h1:IntR w v0 0) h2=>Wf v0 (.agg #[.bool b,.slice a n c]) 0 X w h0 hX h1 h2;have ho:=fun w=>of_c 0 w (by omega) (by omega);rw [show (0:Int)-X = -X by omega] at hm;replace hm:=mK hm;replace ho:=mK ho;replace H1:=mK H1;clear h;go_enter Tryz.func258,Tryz.ntmps258;go_wp2_with fail;obtain ⟨wb,hwb⟩:=nmE ((w.alloc (.cells #[.bool b,.slice a n c] 26)).alloc (.cells #[.bool false,.slice none 0 0] 26));have hE:=aLe2 hwb;obtain ⟨c0,c1⟩:=ceX1 (aL20 hwb);have hB:=mK (fun W (e:Ext wb W)=>e.blk (aL21 hwb));have hsz:w.heap.size+2≤wb.heap.size:=by rw [hwb];simp
 have H1b:=mK (H1.out.ext hE);rw [←hwb];replace hE:=mK hE;clear hwb H1;apply Ak [.pred (fun W v=>IntO W (w.heap.size+2) v 0),.val _,.pred (fun W v=>IntO W (w.heap.size+2) v (-X))] (by kernel_rfl) (Av _ _ (stable_vals _ (Av _ _ trivial)));refine ⟨fun W hW _=>?g0,fun v0=>?_⟩
 case g0=>
  go_simp;refine (ho.out W).mono ?_;rintro e w' ⟨v,rfl,h1,h2⟩;exact ⟨v,rfl,h1,h2.mono (nT hsz hW.size)⟩
 refine ⟨fun W hW _=>by go_simp;exact ⟨xR _,rfl⟩,?_⟩;refine ⟨fun W hW hF=>?g2,fun v2=>fun W hW hF=>?fin⟩
 case g2=>
  have h0:Hid (IntO W (w.heap.size+2) v0 0):=hF.1 (by kernel_rfl);clear hF;go_simp;refine (hm.out _ W h0.out.r (H1b.out.ext hW)).mono ?_;rintro e w' ⟨v,rfl,h1,h2⟩;exact ⟨v,rfl,h1,h2.mono (nT hsz hW.size)⟩
 case fin=>
  have h2:IntO W (w.heap.size+2) v2 (-X):=hF.1 rfl;obtain ⟨nb,a2,n2,c2,rfl⟩:=h2.r.shape;have hBW:=hB.out W hW;have hR:IntO (W.setRow (w.heap.size+1) #[.bool nb,.slice a2 n2 c2]) w.heap.size (.agg #[.bool nb,.slice a2 n2 c2]) (-X):=(h2.row (by omega) _).mono (by omega);have hEW:=mK ((hE.out.trans hW).row (show w.heap.size≤w.heap.size+1 by omega) #[.bool nb,.slice a2 n2 c2]);replace hR:=mK hR;clear h2 hF c0 c1;go_simp;go_wp2_with (refine wpList_store_row rfl 26 (.tmp 2) (.tmp 5) rfl (w.heap.size+1) #[.bool nb,.slice a2 n2 c2] rfl rfl 26 _ hBW (by kernel_rfl) rfl (by kernel_rfl) ?_);exact bodyPost_ret (results_cell_row rfl _ _ (w.heap.size+1) 26 #[.bool nb,.slice a2 n2 c2] (0,0) _ rfl (setRow_heap _ _ _ _ _ _ hBW) Tryz.underlying26 rfl (by kernel_rfl)) rfl ⟨_,rfl,hEW.out,hR.out⟩
theorem Pk (n d:Int):(Rat.divInt n d).num=if d<0 then -(n.tdiv (Int.gcd n d:Nat)) else if d=0 then 0 else n.tdiv (Int.gcd n d:Nat):=by
 have hdv:((Int.gcd n d:Nat):Int) ∣ n:=Int.gcd_dvd_left ..;rw [Rat.num_divInt,Int.gcd_comm d n,Int.tdiv_eq_ediv_of_dvd hdv];rcases Int.lt_trichotomy d 0 with h|h|h
 ·rw [if_pos h,Int.sign_eq_neg_one_of_neg h,Int.neg_mul,Int.one_mul,Int.neg_ediv_of_dvd hdv]
 ·subst h
  simp
 ·rw [if_neg (by omega),if_neg (by omega),Int.sign_eq_one_of_pos h,Int.one_mul]
theorem Pm (n d:Int)(h0:d≠0):((Rat.divInt n d).den:Int)=if d<0 then -(d.tdiv (Int.gcd n d:Nat)) else d.tdiv (Int.gcd n d:Nat):=by
 have hdv:((Int.gcd n d:Nat):Int) ∣ d:=Int.gcd_dvd_right ..;rw [Rat.den_divInt,if_neg h0,Int.gcd_comm d n,Int.tdiv_eq_ediv_of_dvd hdv,Int.natCast_ediv];split
 ·rw [←Int.neg_ediv_of_dvd hdv]
  congr 1;omega
 ·congr 1
  omega
theorem Kv (n:Int)(g:Nat):nl (n.tdiv g)≤nl n:=by
 unfold nl;refine Cq ?_;rw [Int.natAbs_tdiv];exact Nat.div_le_self _ _
theorem tdiv_neg (Y:Int)(g:Nat)(h0:g≠0)(h:(g:Int) ∣ Y):Y.tdiv (g:Nat)<0↔Y<0:=by
 obtain ⟨k,rfl⟩:=h;rw [Int.mul_tdiv_cancel_left _ (by omega)];have hp:(0:Int)<g:=by omega
 constructor
 ·intro h
  exact Int.mul_neg_of_pos_of_neg hp h
 ·intro h
  rcases Int.lt_or_le k 0 with h1|h1
  ·exact h1
  ·have:=Int.mul_nonneg (Int.le_of_lt hp) h1
   omega
structure Keep (w:World) (K:World→Value→Int→Prop):Prop where
 ext:∀ {W W' v x},K W v x→Ext W W'→K W' v x
 row:∀ {W v x g old T fr} (cs:Array Value),K W v x→W.heap[g]? = some (.cells old T fr)→T≠150→w.heap.size≤g→K (W.setRow g cs) v x
 r:∀ {W v x},K W v x→IntR W v x
 o:∀ {W v x},IntO W w.heap.size v x→K W v x
theorem Af5 (w:World)(base:Nat)(hb:base≤w.heap.size):Keep w (fun W v x=>IntO W base v x):=
 ⟨fun h e=>h.ext e,fun cs h hg hT _=>h.row_type hg hT cs,fun h=>h.r,fun h=>h.mono hb⟩
theorem Um (w:World):Keep w (fun W v x=>IntO W w.heap.size v x∨(IntR w v x∧Ext w W)):=by
 refine ⟨?_,?_,?_,fun h=>.inl h⟩
 ·rintro W W' v x (h|h) e
  ·exact .inl (h.ext e)
  ·exact .inr ⟨h.1,h.2.trans e⟩
 ·rintro W v x g old T fr cs (h|h) hg hT hs
  ·exact .inl (h.row_type hg hT cs)
  ·exact .inr ⟨h.1,h.2.row hs cs⟩
 ·rintro W v x (h|h)
  ·exact h.r
  ·exact h.1.ext h.2
theorem Rt (K:World→Value→Int→Prop)(v1 v2:Value)(X Y:Int)(w:World)(hK:Keep w K)(hX:nl X≤1073741824)(hY:nl Y≤1073741824)(hY0:Y≠0)(h1:K w v1 X)(h2:K w v2 Y) :
  Calls Tryz.prog 209 #[v1,v2] w fun e w'=>∃ b1 a1 n1 c1 b2 a2 n2 c2,e=.returned (.agg #[.bool b1,.slice a1 n1 c1,.bool b2,.slice a2 n2 c2])∧Ext w w' ∧
   K w' (.agg #[.bool b1,.slice a1 n1 c1]) (Rat.divInt X Y).num∧K w' (.agg #[.bool b2,.slice a2 n2 c2]) ((Rat.divInt X Y).den:Int):=by
 have H1:=h1;have H2:=h2;obtain ⟨b1,a1,n1,m1,rfl⟩:=(hK.r h1).shape;obtain ⟨b2,a2,n2,m2,rfl⟩:=(hK.r h2).shape;have en:=Pk X Y;have ed:=Pm X Y hY0;rw [if_neg hY0] at en;have hcm:=fun w h1 h2=>Mm (.agg #[.bool b1,.slice a1 n1 m1]) (.agg #[.bool b2,.slice a2 n2 m2]) X Y w hX hY h1 h2
 have hg0:Int.gcd X Y≠0:=by
  intro h;exact hY0 (Int.gcd_eq_zero_iff.1 h).2
 have hgl:nl (Int.gcd X Y:Nat)≤1073741824:=by
  refine nT (Cq ?_) hY;rw [Int.natAbs_natCast];exact Nat.le_of_dvd (by omega) (by simpa using (Int.natAbs_dvd_natAbs.2 (Int.gcd_dvd_right X Y)))
 have hd1:(X.tdiv (Int.gcd X Y:Nat))=X∧(Y.tdiv (Int.gcd X Y:Nat))=Y∨Int.gcd X Y≠1:=by
  by_cases h:Int.gcd X Y=1
  ·left;rw [h];simp
  ·exact .inr h
 have hX2:=nT (Kv X (Int.gcd X Y)) hX;have hY2:=nT (Kv Y (Int.gcd X Y)) hY
 have hYz:Y.tdiv (Int.gcd X Y:Nat)≠0:=by
  intro h;have e:=Int.tdiv_mul_cancel (Int.gcd_dvd_right X Y);rw [h] at e;omega
 have hs2:=tdiv_neg Y (Int.gcd X Y) hg0 (Int.gcd_dvd_right X Y);generalize Int.gcd X Y=G at *;generalize (Rat.divInt X Y).num=RN at *;generalize ((Rat.divInt X Y).den:Int)=RD at *;obtain ⟨S,hS⟩:=nmE (((G:Int)-1).sign);have h01:nl 1≤1073741824:=by unfold nl;simp;rw [Ht (by omega) (by omega)];simp
 have hof:=mK (fun w=>of_c 1 w (by omega) (by omega));have hcmp:=fun v1 v2 w h1 h2=>Kt v1 v2 (G:Int) 1 w hgl h01 h1 h2;rw [←hS] at hcmp;replace hcm:=mK hcm;replace hcmp:=mK hcmp;replace hS:=mK hS;replace H1:=mK H1;replace H2:=mK H2;replace en:=mK en;replace ed:=mK ed;replace hd1:=mK hd1;replace hs2:=mK hs2;replace hYz:=mK hYz;replace hgl:=mK hgl;replace hX2:=mK hX2;replace hY2:=mK hY2;clear h1 h2 h01;go_enter Tryz.func209,Tryz.ntmps209;go_wp2_with fail;obtain ⟨wb,hwb⟩:=nmE (((w.alloc (.cells #[.bool b1,.slice a1 n1 m1] 26)).alloc (.cells #[.bool b2,.slice a2 n2 m2] 26)).alloc (.cells #[.bool false,.slice none 0 0,.bool false,.slice none 0 0] 28));rw [←hwb];have hE:=aLe3 hwb;have hB0:=aL30 hwb;have hB1:=aL31 hwb;have hB2:=aL32 hwb;have hsz:w.heap.size+3≤wb.heap.size:=by rw [hwb];simp
 replace H1:=mK (hK.ext H1.out hE);replace H2:=mK (hK.ext H2.out hE);clear hwb;refine (hcm.out wb (hK.r H1.out) (hK.r H2.out)).mono ?_;rintro e w1 ⟨vg,rfl,hE1,hg⟩;obtain ⟨bg,ag,ng,mg,rfl⟩:=hg.r.shape;replace hg:=mK hg;have hszb:=hsz;replace hE:=mK (hE.trans hE1);replace H1:=mK (hK.ext H1.out hE1);replace H2:=mK (hK.ext H2.out hE1);replace hB0:=mK (hE1.blk hB0);replace hB1:=mK (hE1.blk hB1);replace hB2:=mK (hE1.blk hB2);replace hsz:w.heap.size+3≤w1.heap.size:=nT hsz hE1.size;clear hE1 hcm;go_wp2_with fail;obtain ⟨w2,hw2⟩:=nmE (w1.alloc (.cells #[.bool bg,.slice ag ng mg] 26));rw [←hw2];have hE2:=aLe1 hw2;have hBg:=aL10 hw2;replace hg:=mK ((hg.out.ext hE2).mono hszb);replace hE:=mK (hE.out.trans hE2);replace H1:=mK (hK.ext H1.out hE2);replace H2:=mK (hK.ext H2.out hE2);replace hB0:=mK (hE2.blk hB0.out);replace hB1:=mK (hE2.blk hB1.out);replace hB2:=mK (hE2.blk hB2.out);have k0:∀ W,Ext w2 W→W.cell? ⟨w1.heap.size,0,none⟩=some (.bool bg):=fun W e=>e.cell (Am hBg).1;have k1:∀ W,Ext w2 W→W.cell? ⟨w1.heap.size,1,none⟩=some (.slice ag ng mg):=fun W e=>e.cell (Am hBg).2;replace hBg:=mK hBg;have hsz2:w1.heap.size+1≤w2.heap.size:=by rw [hw2];simp
 clear hw2 hE2;apply Ak [.val _,.pred (fun W v=>IntO W (w1.heap.size+1) v 1),.val (.int .i64 S)] (by kernel_rfl) (stable_vals _ (Av _ _ (stable_vals _ trivial)));refine ⟨fun W hW _=>by go_simp;exact ⟨xR _,rfl⟩,?_⟩;refine ⟨fun W hW _=>?g1,fun v1=>?_⟩
 case g1=>
  go_simp;refine (hof.out W).mono ?_;rintro e w' ⟨v,rfl,h1,h2⟩;exact ⟨v,rfl,h1,h2.mono (nT hsz2 hW.size)⟩
 refine ⟨fun W hW hF=>?g2,fun W hW _=>?fin⟩
 case g2=>
  have h0:Hid (IntO W (w1.heap.size+1) v1 1):=hF.1 (by kernel_rfl);clear hF;go_simp;refine (hcmp.out _ _ W (hg.out.r.ext hW) h0.out.r).mono ?_;rintro e w' ⟨rfl,hE⟩;exact ⟨rfl,hE⟩
 case fin=>
  have E2:=hE.out.trans hW;have J1:=hK.ext H1.out hW;have J2:=hK.ext H2.out hW;have r0:=hW.blk hB0.out;have r1:=hW.blk hB1.out;have r2:=hW.blk hB2.out;have rg:=hW.blk hBg.out;have Jg:=hg.out.ext hW;clear hE H1 H2 hB0 hB1 hB2 hBg k0 k1 hsz2 hg hW;by_cases hG:G=1
  ·have hS0:S=0:=by rw [hS.out,hG];rfl
   subst hS0;obtain ⟨e1,e2⟩:=hd1.out.resolve_right (by omega);rw [e1] at en;rw [e2] at ed;have JN:=mK J1;have JD:=J2;clear rg Jg J1 J2;have hsg:=mK (Fz _ (Y) W (hK.r JD) hY);have c1:=Am r1;replace r0:=mK r0;replace r1:=mK r1;replace r2:=mK r2;replace E2:=mK E2;replace JD:=mK JD
   (go_simp;go_wp2_with fail)
   refine hsg.out.mono ?_;rintro e w7 ⟨rfl,hE7⟩;have q0:=hE7.blk r0.out;have q1:=hE7.blk r1.out;have q2:=hE7.blk r2.out;have JN:=hK.ext JN.out hE7;have JD:=hK.ext JD.out hE7;have E7:=E2.out.trans hE7;clear r0 r1 r2 E2 hE7 c1 hsg;by_cases hneg:Y<0
   ·have hsn:(Y).sign = -1:=Int.sign_eq_neg_one_of_neg ((Iff.refl (Y<0)).2 hneg)
    rw [hsn];have en:=en.out;have ed:=ed.out;rw [if_pos hneg] at en ed;subst en;subst ed;have c0:=Am q0;have c1:=Am q1;have t1:=mK (fun W e=>Gv _ (X) W hX ((hK.r JN).ext (w':=W) e));have t2:=mK (fun W e=>Gv _ (Y) W hY ((hK.r JD).ext (w':=W) e));replace q0:=mK q0;replace q1:=mK q1;replace q2:=mK q2;replace E7:=mK E7;clear JN JD;replace hneg:=mK hneg;go_wp2_with fail;have k00:=fun W (e:Ext w7 W)=>e.cell c0.1;have k01:=fun W (e:Ext w7 W)=>e.cell c0.2;have k10:=fun W (e:Ext w7 W)=>e.cell c1.1;have k11:=fun W (e:Ext w7 W)=>e.cell c1.2;have hz7:w.heap.size+3≤w7.heap.size:=(Array.getElem?_eq_some_iff.1 q2.out).1;apply Ak [.val _,.pred (fun W v=>IntO W (w.heap.size+3) v (-(X))),.val _,.pred (fun W v=>IntO W (w.heap.size+3) v (-(Y)))] (by kernel_rfl) (stable_vals _ (Av _ _ (stable_vals _ (Av _ _ trivial))));refine ⟨fun W hW _=>by go_simp;exact ⟨xR _,rfl⟩,?_⟩;refine ⟨fun W hW _=>?h1,fun v1=>?_⟩
    case h1=>
     go_simp;refine (t1.out W hW).mono ?_;rintro e w' ⟨v,rfl,h1,h2⟩;exact ⟨v,rfl,h1,h2.mono (nT hz7 hW.size)⟩
    refine ⟨fun W hW _=>by go_simp;exact ⟨xR _,rfl⟩,?_⟩;refine ⟨fun W hW _=>?h3,fun v3=>fun W hW hF=>?fin⟩
    case h3=>
     go_simp;refine (t2.out W hW).mono ?_;rintro e w' ⟨v,rfl,h1,h2⟩;exact ⟨v,rfl,h1,h2.mono (nT hz7 hW.size)⟩
    case fin=>
     have J3:IntO W (w.heap.size+3) v3 (-(Y)):=hF.1 rfl;have J1:IntO W (w.heap.size+3) v1 (-(X)):=hF.2.1 rfl;obtain ⟨x1,x2,x3,x4,rfl⟩:=J1.r.shape;obtain ⟨y1,y2,y3,y4,rfl⟩:=J3.r.shape;have p0:=hW.blk q0.out;have p1:=hW.blk q1.out;have p2:=hW.blk q2.out;have hrows:=Fe W w.heap.size (w.heap.size+1) #[.bool x1,.slice x2 x3 x4] #[.bool y1,.slice y2 y3 y4] _ _ _ (by omega) p0 p1
     have p3:((W.setRow w.heap.size #[.bool x1,.slice x2 x3 x4]).setRow (w.heap.size+1) #[.bool y1,.slice y2 y3 y4]).heap[w.heap.size+2]? = some (.cells #[.bool false,.slice none 0 0,.bool false,.slice none 0 0] 28 (0,0)):=by
      rw [setRow_other _ _ _ _ (by omega),setRow_other _ _ _ _ (by omega)];exact p2
     have d0:=Am hrows.1;have d1:=Am hrows.2.1;have F1:=hK.o (((((J1.row (g:=w.heap.size) (by omega) #[.bool x1,.slice x2 x3 x4]).row (g:=w.heap.size+1) (by omega) #[.bool y1,.slice y2 y3 y4]).row (g:=w.heap.size+2) (by omega) #[.bool x1,.slice x2 x3 x4,.bool y1,.slice y2 y3 y4])).mono (show w.heap.size≤w.heap.size+3 by omega));have F3:=hK.o (((((J3.row (g:=w.heap.size) (by omega) #[.bool x1,.slice x2 x3 x4]).row (g:=w.heap.size+1) (by omega) #[.bool y1,.slice y2 y3 y4]).row (g:=w.heap.size+2) (by omega) #[.bool x1,.slice x2 x3 x4,.bool y1,.slice y2 y3 y4])).mono (show w.heap.size≤w.heap.size+3 by omega));have FE:=mK ((((E7.out.trans hW).row (show w.heap.size≤w.heap.size by omega) #[.bool x1,.slice x2 x3 x4]).row (show w.heap.size≤w.heap.size+1 by omega) #[.bool y1,.slice y2 y3 y4]).row (show w.heap.size≤w.heap.size+2 by omega) #[.bool x1,.slice x2 x3 x4,.bool y1,.slice y2 y3 y4]);replace p0:=mK p0;replace p3:=mK p3;replace hrows:=mK hrows;replace F1:=mK F1;replace F3:=mK F3;clear J1 J3 hF k00 k01 k10 k11 p1 p2 c0 c1 hW;go_simp
     go_wp2_with (first
      | (refine wpList_store_row rfl 26 (.tmp 2) (.tmp 29) rfl w.heap.size #[.bool x1,.slice x2 x3 x4] rfl rfl 26 _ p0.out (by kernel_rfl) rfl (by kernel_rfl) ?_)
      | (refine wpList_store_row rfl 26 (.tmp 3) (.tmp 31) rfl (w.heap.size+1) #[.bool y1,.slice y2 y3 y4] rfl rfl 26 _ hrows.out.2.2 (by kernel_rfl) rfl (by kernel_rfl) ?_)
      | (refine wpList_store_row rfl 28 (.tmp 4) (.tmp 34) rfl (w.heap.size+2) #[.bool x1,.slice x2 x3 x4,.bool y1,.slice y2 y3 y4] rfl rfl 28 _ p3.out (by kernel_rfl) rfl (by kernel_rfl) ?_))
     exact bodyPost_ret (results_cell_row rfl _ _ (w.heap.size+2) 28 #[.bool x1,.slice x2 x3 x4,.bool y1,.slice y2 y3 y4] (0,0) _ rfl (setRow_heap _ _ _ _ _ _ p3.out) Tryz.underlying28 rfl (by kernel_rfl)) rfl ⟨_,_,_,_,_,_,_,_,rfl,FE.out,F1.out,F3.out⟩
   ·have hsn:(Y).sign=1:=Int.sign_eq_one_of_pos (by have:=mt (Iff.refl (Y<0)).1 hneg;have:=hY0;omega)
    rw [hsn];have en:=en.out;have ed:=ed.out;rw [if_neg hneg] at en ed;subst en;subst ed;have c0:=Am q0;have c1:=Am q1;have F1:=hK.row (g:=w.heap.size+2) #[.bool b1,.slice a1 n1 m1,.bool b2,.slice a2 n2 m2] JN q2 (by decide) (by omega);have F3:=hK.row (g:=w.heap.size+2) #[.bool b1,.slice a1 n1 m1,.bool b2,.slice a2 n2 m2] JD q2 (by decide) (by omega);have FE:=mK (E7.row (show w.heap.size≤w.heap.size+2 by omega) #[.bool b1,.slice a1 n1 m1,.bool b2,.slice a2 n2 m2]);replace q0:=mK q0;replace q1:=mK q1;replace q2:=mK q2;replace E7:=mK E7;replace F1:=mK F1;replace F3:=mK F3;clear JN JD;replace hneg:=mK hneg;go_wp2_with (refine wpList_store_row rfl 28 (.tmp 4) (.tmp 34) rfl (w.heap.size+2) #[.bool b1,.slice a1 n1 m1,.bool b2,.slice a2 n2 m2] rfl rfl 28 _ q2.out (by kernel_rfl) rfl (by kernel_rfl) ?_);exact bodyPost_ret (results_cell_row rfl _ _ (w.heap.size+2) 28 #[.bool b1,.slice a1 n1 m1,.bool b2,.slice a2 n2 m2] (0,0) _ rfl (setRow_heap _ _ _ _ _ _ q2.out) Tryz.underlying28 rfl (by kernel_rfl)) rfl ⟨_,_,_,_,_,_,_,_,rfl,FE.out,F1.out,F3.out⟩
  ·have hS0:(S==0)=false:=by
    rw [hS.out,beq_eq_false_iff_ne];intro h;have:=Int.sign_eq_zero_iff_zero.1 h;omega
   have c0:=Am r0;have c1:=Am r1;have cg:=Am rg;have hdv:=mK (Aca _ _ X (G:Int) W hX hgl.out (by omega) (hK.r J1) Jg.r);replace r0:=mK r0;replace r1:=mK r1;replace r2:=mK r2;replace rg:=mK rg;replace E2:=mK E2;replace J1:=mK J1;replace J2:=mK J2;replace Jg:=mK Jg;go_simp;go_wp2_with fail;refine hdv.out.mono ?_;rintro e w3 ⟨q,r,rfl,hE3,hq,_⟩;obtain ⟨x1,x2,x3,x4,rfl⟩:=hq.r.shape;have p0:=hE3.blk r0.out;have p1:=hE3.blk r1.out;have p2:=hE3.blk r2.out;have pg:=hE3.blk rg.out;have s0:=setRow_heap _ _ _ #[.bool x1,.slice x2 x3 x4] _ _ p0;have s1:=(setRow_other w3 w.heap.size _ #[.bool x1,.slice x2 x3 x4] (show w.heap.size+1≠w.heap.size by omega)).trans p1;have s2:=(setRow_other w3 w.heap.size _ #[.bool x1,.slice x2 x3 x4] (show w.heap.size+2≠w.heap.size by omega)).trans p2;have sg:=(setRow_other w3 w.heap.size _ #[.bool x1,.slice x2 x3 x4] (show w1.heap.size≠w.heap.size by omega)).trans pg;have hszW:w.heap.size+3≤W.heap.size:=(Array.getElem?_eq_some_iff.1 r2.out).1;have M1:=(hq.mono hszW).row (g:=w.heap.size) (by omega) #[.bool x1,.slice x2 x3 x4];have M2:=hK.row #[.bool x1,.slice x2 x3 x4] (hK.ext J2.out hE3) p0 (by decide) (nR _);have Mg:=(Jg.out.ext hE3).row (g:=w.heap.size) (by omega) #[.bool x1,.slice x2 x3 x4];have E4:=(E2.out.trans hE3).row (nR _) #[.bool x1,.slice x2 x3 x4];have hdv2:=mK (Aca _ _ Y (G:Int) (w3.setRow w.heap.size #[.bool x1,.slice x2 x3 x4]) hY hgl.out (by omega) (hK.r M2) Mg.r);have d1:=Am s1;have dg:=Am sg;replace p0:=mK p0;replace s0:=mK s0;replace s1:=mK s1;replace s2:=mK s2;replace M1:=mK M1;replace E4:=mK E4;clear hq r0 r1 r2 rg E2 J1 J2 Jg c0 c1 cg p1 p2 pg hdv sg M2 Mg hE3;go_wp2_with (refine wpList_store_row rfl 26 (.tmp 2) (.tmp 17) rfl w.heap.size #[.bool x1,.slice x2 x3 x4] rfl rfl 26 _ p0.out (by kernel_rfl) rfl (by kernel_rfl) ?_);refine hdv2.out.mono ?_;rintro e w5 ⟨q,r,rfl,hE5,hq,_⟩
   obtain ⟨y1,y2,y3,y4,rfl⟩:=hq.r.shape;have u0:=hE5.blk s0.out;have u1:=hE5.blk s1.out;have u2:=hE5.blk s2.out;have hsz4:w.heap.size+3≤(w3.setRow w.heap.size #[.bool x1,.slice x2 x3 x4]).heap.size:=(Array.getElem?_eq_some_iff.1 s2.out).1;have r0:=(setRow_other w5 (w.heap.size+1) _ #[.bool y1,.slice y2 y3 y4] (show w.heap.size≠w.heap.size+1 by omega)).trans u0;have r1:=setRow_heap _ _ _ #[.bool y1,.slice y2 y3 y4] _ _ u1;have r2:=(setRow_other w5 (w.heap.size+1) _ #[.bool y1,.slice y2 y3 y4] (show w.heap.size+2≠w.heap.size+1 by omega)).trans u2;have JN:=hK.o (((M1.out.ext hE5).row (g:=w.heap.size+1) (by omega) #[.bool y1,.slice y2 y3 y4]).mono (show w.heap.size≤w.heap.size+3 by omega));have JD:=hK.o (((hq.mono hsz4).row (g:=w.heap.size+1) (by omega) #[.bool y1,.slice y2 y3 y4]).mono (show w.heap.size≤w.heap.size+3 by omega));have E2:=mK ((E4.out.trans hE5).row (show w.heap.size≤w.heap.size+1 by omega) #[.bool y1,.slice y2 y3 y4]);replace u1:=mK u1;clear u0 u2 M1 E4 hE5 hq s0 s1 s2 d1 dg hdv2 hsz4
   have hYn:Y.tdiv (G:Int)≠0:=by
    intro h;exact hYz.out h
   have hsg:=mK (Fz _ (Y.tdiv (G:Int)) (w5.setRow (w.heap.size+1) #[.bool y1,.slice y2 y3 y4]) (hK.r JD) hY2.out);have c1:=Am r1;replace r0:=mK r0;replace r1:=mK r1;replace r2:=mK r2;replace JN:=mK JN;replace JD:=mK JD
   (go_wp2_with (refine wpList_store_row rfl 26 (.tmp 3) (.tmp 23) rfl (w.heap.size+1) #[.bool y1,.slice y2 y3 y4] rfl rfl 26 _ u1.out (by kernel_rfl) rfl (by kernel_rfl) ?_))
   refine hsg.out.mono ?_;rintro e w7 ⟨rfl,hE7⟩;have q0:=hE7.blk r0.out;have q1:=hE7.blk r1.out;have q2:=hE7.blk r2.out;have JN:=hK.ext JN.out hE7;have JD:=hK.ext JD.out hE7;have E7:=E2.out.trans hE7;clear r0 r1 r2 E2 hE7 c1 hsg;by_cases hneg:Y<0
   ·have hsn:(Y.tdiv (G:Int)).sign = -1:=Int.sign_eq_neg_one_of_neg ((hs2.out).2 hneg)
    rw [hsn];have en:=en.out;have ed:=ed.out;rw [if_pos hneg] at en ed;subst en;subst ed;have c0:=Am q0;have c1:=Am q1;have t1:=mK (fun W e=>Gv _ (X.tdiv (G:Int)) W hX2.out ((hK.r JN).ext (w':=W) e));have t2:=mK (fun W e=>Gv _ (Y.tdiv (G:Int)) W hY2.out ((hK.r JD).ext (w':=W) e));replace q0:=mK q0;replace q1:=mK q1;replace q2:=mK q2;replace E7:=mK E7;clear JN JD;replace hneg:=mK hneg;go_wp2_with fail;have k00:=fun W (e:Ext w7 W)=>e.cell c0.1;have k01:=fun W (e:Ext w7 W)=>e.cell c0.2;have k10:=fun W (e:Ext w7 W)=>e.cell c1.1;have k11:=fun W (e:Ext w7 W)=>e.cell c1.2;have hz7:w.heap.size+3≤w7.heap.size:=(Array.getElem?_eq_some_iff.1 q2.out).1;apply Ak [.val _,.pred (fun W v=>IntO W (w.heap.size+3) v (-(X.tdiv (G:Int)))),.val _,.pred (fun W v=>IntO W (w.heap.size+3) v (-(Y.tdiv (G:Int))))] (by kernel_rfl) (stable_vals _ (Av _ _ (stable_vals _ (Av _ _ trivial))));refine ⟨fun W hW _=>by go_simp;exact ⟨xR _,rfl⟩,?_⟩;refine ⟨fun W hW _=>?h1,fun v1=>?_⟩
    case h1=>
     go_simp;refine (t1.out W hW).mono ?_;rintro e w' ⟨v,rfl,h1,h2⟩;exact ⟨v,rfl,h1,h2.mono (nT hz7 hW.size)⟩
    refine ⟨fun W hW _=>by go_simp;exact ⟨xR _,rfl⟩,?_⟩;refine ⟨fun W hW _=>?h3,fun v3=>fun W hW hF=>?fin⟩
    case h3=>
     go_simp;refine (t2.out W hW).mono ?_;rintro e w' ⟨v,rfl,h1,h2⟩;exact ⟨v,rfl,h1,h2.mono (nT hz7 hW.size)⟩
    case fin=>
     have J3:IntO W (w.heap.size+3) v3 (-(Y.tdiv (G:Int))):=hF.1 rfl;have J1:IntO W (w.heap.size+3) v1 (-(X.tdiv (G:Int))):=hF.2.1 rfl;obtain ⟨x1,x2,x3,x4,rfl⟩:=J1.r.shape;obtain ⟨y1,y2,y3,y4,rfl⟩:=J3.r.shape;have p0:=hW.blk q0.out;have p1:=hW.blk q1.out;have p2:=hW.blk q2.out;have hrows:=Fe W w.heap.size (w.heap.size+1) #[.bool x1,.slice x2 x3 x4] #[.bool y1,.slice y2 y3 y4] _ _ _ (by omega) p0 p1
     have p3:((W.setRow w.heap.size #[.bool x1,.slice x2 x3 x4]).setRow (w.heap.size+1) #[.bool y1,.slice y2 y3 y4]).heap[w.heap.size+2]? = some (.cells #[.bool false,.slice none 0 0,.bool false,.slice none 0 0] 28 (0,0)):=by
      rw [setRow_other _ _ _ _ (by omega),setRow_other _ _ _ _ (by omega)];exact p2
     have d0:=Am hrows.1;have d1:=Am hrows.2.1;have F1:=hK.o (((((J1.row (g:=w.heap.size) (by omega) #[.bool x1,.slice x2 x3 x4]).row (g:=w.heap.size+1) (by omega) #[.bool y1,.slice y2 y3 y4]).row (g:=w.heap.size+2) (by omega) #[.bool x1,.slice x2 x3 x4,.bool y1,.slice y2 y3 y4])).mono (show w.heap.size≤w.heap.size+3 by omega));have F3:=hK.o (((((J3.row (g:=w.heap.size) (by omega) #[.bool x1,.slice x2 x3 x4]).row (g:=w.heap.size+1) (by omega) #[.bool y1,.slice y2 y3 y4]).row (g:=w.heap.size+2) (by omega) #[.bool x1,.slice x2 x3 x4,.bool y1,.slice y2 y3 y4])).mono (show w.heap.size≤w.heap.size+3 by omega));have FE:=mK ((((E7.out.trans hW).row (show w.heap.size≤w.heap.size by omega) #[.bool x1,.slice x2 x3 x4]).row (show w.heap.size≤w.heap.size+1 by omega) #[.bool y1,.slice y2 y3 y4]).row (show w.heap.size≤w.heap.size+2 by omega) #[.bool x1,.slice x2 x3 x4,.bool y1,.slice y2 y3 y4]);replace p0:=mK p0;replace p3:=mK p3;replace hrows:=mK hrows;replace F1:=mK F1;replace F3:=mK F3;clear J1 J3 hF k00 k01 k10 k11 p1 p2 c0 c1 hW;go_simp
     go_wp2_with (first
      | (refine wpList_store_row rfl 26 (.tmp 2) (.tmp 29) rfl w.heap.size #[.bool x1,.slice x2 x3 x4] rfl rfl 26 _ p0.out (by kernel_rfl) rfl (by kernel_rfl) ?_)
      | (refine wpList_store_row rfl 26 (.tmp 3) (.tmp 31) rfl (w.heap.size+1) #[.bool y1,.slice y2 y3 y4] rfl rfl 26 _ hrows.out.2.2 (by kernel_rfl) rfl (by kernel_rfl) ?_)
      | (refine wpList_store_row rfl 28 (.tmp 4) (.tmp 34) rfl (w.heap.size+2) #[.bool x1,.slice x2 x3 x4,.bool y1,.slice y2 y3 y4] rfl rfl 28 _ p3.out (by kernel_rfl) rfl (by kernel_rfl) ?_))
     exact bodyPost_ret (results_cell_row rfl _ _ (w.heap.size+2) 28 #[.bool x1,.slice x2 x3 x4,.bool y1,.slice y2 y3 y4] (0,0) _ rfl (setRow_heap _ _ _ _ _ _ p3.out) Tryz.underlying28 rfl (by kernel_rfl)) rfl ⟨_,_,_,_,_,_,_,_,rfl,FE.out,F1.out,F3.out⟩
   ·have hsn:(Y.tdiv (G:Int)).sign=1:=Int.sign_eq_one_of_pos (by have:=mt (hs2.out).1 hneg;have:=hYn;omega)
    rw [hsn];have en:=en.out;have ed:=ed.out;rw [if_neg hneg] at en ed;subst en;subst ed;have c0:=Am q0;have c1:=Am q1;have F1:=hK.row (g:=w.heap.size+2) #[.bool x1,.slice x2 x3 x4,.bool y1,.slice y2 y3 y4] JN q2 (by decide) (by omega);have F3:=hK.row (g:=w.heap.size+2) #[.bool x1,.slice x2 x3 x4,.bool y1,.slice y2 y3 y4] JD q2 (by decide) (by omega);have FE:=mK (E7.row (show w.heap.size≤w.heap.size+2 by omega) #[.bool x1,.slice x2 x3 x4,.bool y1,.slice y2 y3 y4]);replace q0:=mK q0;replace q1:=mK q1;replace q2:=mK q2;replace E7:=mK E7;replace F1:=mK F1;replace F3:=mK F3;clear JN JD;replace hneg:=mK hneg;go_wp2_with (refine wpList_store_row rfl 28 (.tmp 4) (.tmp 34) rfl (w.heap.size+2) #[.bool x1,.slice x2 x3 x4,.bool y1,.slice y2 y3 y4] rfl rfl 28 _ q2.out (by kernel_rfl) rfl (by kernel_rfl) ?_);exact bodyPost_ret (results_cell_row rfl _ _ (w.heap.size+2) 28 #[.bool x1,.slice x2 x3 x4,.bool y1,.slice y2 y3 y4] (0,0) _ rfl (setRow_heap _ _ _ _ _ _ q2.out) Tryz.underlying28 rfl (by kernel_rfl)) rfl ⟨_,_,_,_,_,_,_,_,rfl,FE.out,F1.out,F3.out⟩
theorem Hd (base:Nat)(v1 v2:Value)(X Y:Int)(w:World)(hb:base≤w.heap.size)(hX:nl X≤1073741824)(hY:nl Y≤1073741824)(hY0:Y≠0)(h1:IntO w base v1 X)(h2:IntO w base v2 Y) :
  Calls Tryz.prog 209 #[v1,v2] w fun e w'=>∃ v,e=.returned v∧Ext w w'∧FracO w' base v (Rat.divInt X Y):=by
 refine (Rt _ v1 v2 X Y w (Af5 w base hb) hX hY hY0 h1 h2).mono ?_;rintro e w' ⟨b1,a1,n1,c1,b2,a2,n2,c2,rfl,hE,h1,h2⟩;exact ⟨_,rfl,hE,b1,a1,n1,c1,b2,a2,n2,c2,rfl,h1,h2⟩
theorem Abm (v1 v2:Value)(X Y:Int)(w:World)(hX:nl X≤1073741824)(hY:nl Y≤1073741824)(hY0:Y≠0)(h1:IntR w v1 X)(h2:IntR w v2 Y) :
  Calls Tryz.prog 209 #[v1,v2] w fun e w'=>∃ v,e=.returned v∧Ext w w'∧FracR w' v (Rat.divInt X Y):=by
 refine (Rt _ v1 v2 X Y w (Um w) hX hY hY0 (.inr ⟨h1,xR w⟩) (.inr ⟨h2,xR w⟩)).mono ?_;rintro e w' ⟨b1,a1,n1,c1,b2,a2,n2,c2,rfl,hE,h1,h2⟩;exact ⟨_,rfl,hE,b1,a1,n1,c1,b2,a2,n2,c2,rfl,(Um w).r h1,(Um w).r h2⟩
theorem At {ss:List FSpec}(b:Nat)(q:Rat)(h:StableAll Ext ss):StableAll Ext (.pred (fun W v=>FracO W b v q)::ss):=⟨fun _ _ _ e h=>FracO.ext h e,h⟩
theorem Cl (X Y:Int):nl (X*Y)≤nl X+nl Y:=by unfold nl;rw [Int.natAbs_mul];exact Adv _ _
theorem Tw (X Y:Int):nl (X+Y)≤max (nl X) (nl Y)+1:=by
 unfold nl;exact nT (Cq (Int.natAbs_add_le X Y)) (Adw _ _)
theorem Tv (X:Int):nl (-X)=nl X:=by unfold nl;rw [Int.natAbs_neg]
theorem Abf (X Y:Int):nl (X-Y)≤max (nl X) (nl Y)+1:=by
 rw [Int.sub_eq_add_neg,←Tv Y];exact Tw _ _
theorem Ke (x y:Rat):((x.den:Int)*y.den)≠0:=Int.mul_ne_zero (by have:=x.den_nz;omega) (by have:=y.den_nz;omega)
theorem Wv (x y:Rat):Rat.divInt (x.num*y.num) (x.den*y.den)=x*y:=by
 rw [←Rat.divInt_mul_divInt,Rat.num_divInt_den,Rat.num_divInt_den]
theorem Ww (x y:Rat):Rat.divInt (x.num*y.den+y.num*x.den) (x.den*y.den)=x+y:=by
 rw [←Rat.divInt_add_divInt _ _ (by have:=x.den_nz;omega) (by have:=y.den_nz;omega),Rat.num_divInt_den,Rat.num_divInt_den]
theorem Py (x y:Rat):Rat.divInt (x.num*y.den-y.num*x.den) (x.den*y.den)=x-y:=by
 rw [←Rat.divInt_sub_divInt _ _ (by have:=x.den_nz;omega) (by have:=y.den_nz;omega),Rat.num_divInt_den,Rat.num_divInt_den]

theorem Es (v1 v2:Value)(x y:Rat)(w:World)(hX1:nf x≤268435456)(hX2:nf y≤268435456)(h1:FracR w v1 x)(h2:FracR w v2 y) :
  Calls Tryz.prog 154 #[v1,v2] w fun e w'=>∃ v,e=.returned v∧Ext w w'∧FracO w' w.heap.size v (x*y):=by
 have H1:=h1;have H2:=h2;obtain ⟨p1,q1,r1,s1,t1,u1,f1,g1,rfl⟩:=h1.shape;obtain ⟨p2,q2,r2,s2,t2,u2,f2,g2,rfl⟩:=h2.shape;have bn1:nl x.num≤268435456:=nT (Nat.le_max_left _ _) hX1;have bd1:nl (x.den:Int)≤268435456:=nT (Nat.le_max_right _ _) hX1;have bn2:nl y.num≤268435456:=nT (Nat.le_max_left _ _) hX2;have bd2:nl (y.den:Int)≤268435456:=nT (Nat.le_max_right _ _) hX2;have tA:=mK (fun w (h1:IntR w (.agg #[.bool p1,.slice q1 r1 s1]) x.num) (h2:IntR w (.agg #[.bool p2,.slice q2 r2 s2]) y.num)=>Dn _ _ _ _ w (nT bn1 (by decide)) (nT bn2 (by decide)) h1 h2);have tB:=mK (fun w (h1:IntR w (.agg #[.bool t1,.slice u1 f1 g1]) (x.den:Int)) (h2:IntR w (.agg #[.bool t2,.slice u2 f2 g2]) (y.den:Int))=>Dn _ _ _ _ w (nT bd1 (by decide)) (nT bd2 (by decide)) h1 h2);have bD:nl ((x.den:Int)*y.den)≤1073741824:=nT (Cl _ _) (by omega);have bN:nl (x.num*y.num)≤1073741824:=nT (Cl _ _) (by omega);have lo:=mK (fun v w' v' (hb:w.heap.size+3≤w'.heap.size) h1 h2=>Hd (w.heap.size+3) v v' (x.num*y.num) ((x.den:Int)*y.den) w' hb bN bD (Ke x y) h1 h2);replace H1:=mK H1;replace H2:=mK H2;clear h1 h2;go_enter Tryz.func154,Tryz.ntmps154;go_wp2_with fail;obtain ⟨wb,hwb⟩:=nmE (((w.alloc (.cells #[.bool p1,.slice q1 r1 s1,.bool t1,.slice u1 f1 g1] 28)).alloc (.cells #[.bool p2,.slice q2 r2 s2,.bool t2,.slice u2 f2 g2] 28)).alloc (.cells #[.bool false,.slice none 0 0,.bool false,.slice none 0 0] 28));have hE:Ext w wb:=by rw [hwb];exact ((((xR w).al _).al _).al _)
 obtain ⟨c10,c11,c12,c13⟩:=ceX3 (aL30 hwb);obtain ⟨c20,c21,c22,c23⟩:=ceX3 (aL31 hwb);have hB:=mK (fun W (e:Ext wb W)=>e.blk (aL32 hwb));have hsz:w.heap.size+3≤wb.heap.size:=by rw [hwb];simp
 replace H1:=mK (H1.out.ext hE);replace H2:=mK (H2.out.ext hE);rw [←hwb];replace hE:=mK hE;clear hwb;apply Ak [.val _,.val _,.val _,.val _,.pred (fun W v=>IntO W (w.heap.size+3) v (x.num*y.num)),.val _,.val _,.val _,.val _,.pred (fun W v=>IntO W (w.heap.size+3) v ((x.den:Int)*y.den)),.pred (fun W v=>FracO W (w.heap.size+3) v (Rat.divInt (x.num*y.num) (x.den*y.den)))] (by kernel_rfl) (stable_vals _ (stable_vals _ (stable_vals _ (stable_vals _ (Av _ _ (stable_vals _ (stable_vals _ (stable_vals _ (stable_vals _ (Av _ _ (At _ _ trivial)))))))))));refine ⟨fun W hW _=>by go_simp;exact ⟨xR _,rfl⟩,?_⟩;refine ⟨fun W hW _=>by go_simp;exact ⟨xR _,rfl⟩,?_⟩;refine ⟨fun W hW _=>by go_simp;exact ⟨xR _,rfl⟩,?_⟩;refine ⟨fun W hW _=>by go_simp;exact ⟨xR _,rfl⟩,?_⟩;refine ⟨fun W hW hF=>?g4,fun v104=>?_⟩
 case g4=>
  clear hF;go_simp;refine (tA.out W (H1.out.num.ext hW) (H2.out.num.ext hW)).mono ?_;rintro e w' ⟨v,rfl,h1,h2⟩;exact ⟨v,rfl,h1,h2.mono (nT hsz hW.size)⟩
 refine ⟨fun W hW _=>by go_simp;exact ⟨xR _,rfl⟩,?_⟩;refine ⟨fun W hW _=>by go_simp;exact ⟨xR _,rfl⟩,?_⟩;refine ⟨fun W hW _=>by go_simp;exact ⟨xR _,rfl⟩,?_⟩;refine ⟨fun W hW _=>by go_simp;exact ⟨xR _,rfl⟩,?_⟩;refine ⟨fun W hW hF=>?g9,fun v109=>?_⟩
 case g9=>
  clear hF;go_simp;refine (tB.out W (H1.out.den.ext hW) (H2.out.den.ext hW)).mono ?_;rintro e w' ⟨v,rfl,h1,h2⟩;exact ⟨v,rfl,h1,h2.mono (nT hsz hW.size)⟩
 refine ⟨fun W hW hF=>?g10,fun v110=>fun W hW hF=>?fin⟩
 case g10=>
  have d4:Hid (IntO W (w.heap.size+3) v104 (x.num*y.num)):=hF.2.1 (by kernel_rfl);have d9:Hid (IntO W (w.heap.size+3) v109 ((x.den:Int)*y.den)):=hF.1 (by kernel_rfl);clear hF;go_simp;refine (lo.out _ W _ (nT hsz hW.size) d4.out d9.out).mono ?_;rintro e w' ⟨v,rfl,h1,h2⟩;exact ⟨v,rfl,h1,h2⟩
 case fin=>
  have d10:FracO W (w.heap.size+3) v110 (Rat.divInt (x.num*y.num) (x.den*y.den)):=hF.1 rfl;obtain ⟨x1,x2,x3,x4,y1,y2,y3,y4,rfl⟩:=d10.r.shape;have R:=d10;have hBW:=hB.out W hW;have FR:=((R.row (g:=w.heap.size+2) (by omega) #[.bool x1,.slice x2 x3 x4,.bool y1,.slice y2 y3 y4]).mono (show w.heap.size≤w.heap.size+3 by omega))
  have FE:=mK ((hE.out.trans hW).row (show w.heap.size≤w.heap.size+2 by omega) #[.bool x1,.slice x2 x3 x4,.bool y1,.slice y2 y3 y4]);rw [Wv] at FR;replace FR:=mK FR;clear hF R c10 c11 c12 c13 c20 c21 c22 c23 hW;go_simp;go_wp2_with (refine wpList_store_row rfl 28 (.tmp 4) (.tmp 15) rfl (w.heap.size+2) #[.bool x1,.slice x2 x3 x4,.bool y1,.slice y2 y3 y4] rfl rfl 28 _ hBW (by kernel_rfl) rfl (by kernel_rfl) ?_);exact bodyPost_ret (results_cell_row rfl _ _ (w.heap.size+2) 28 #[.bool x1,.slice x2 x3 x4,.bool y1,.slice y2 y3 y4] (0,0) _ rfl (setRow_heap _ _ _ _ _ _ hBW) Tryz.underlying28 rfl (by kernel_rfl)) rfl ⟨_,rfl,FE.out,FR.out⟩
theorem Aa2 (v1 v2:Value)(x y:Rat)(w:World)(hX1:nf x≤268435456)(hX2:nf y≤268435456)(h1:FracR w v1 x)(h2:FracR w v2 y) :
  Calls Tryz.prog 218 #[v1,v2] w fun e w'=>∃ v,e=.returned v∧Ext w w'∧FracO w' w.heap.size v (x+y):=by
 have H1:=h1;have H2:=h2;obtain ⟨p1,q1,r1,s1,t1,u1,f1,g1,rfl⟩:=h1.shape;obtain ⟨p2,q2,r2,s2,t2,u2,f2,g2,rfl⟩:=h2.shape;have bn1:nl x.num≤268435456:=nT (Nat.le_max_left _ _) hX1;have bd1:nl (x.den:Int)≤268435456:=nT (Nat.le_max_right _ _) hX1;have bn2:nl y.num≤268435456:=nT (Nat.le_max_left _ _) hX2;have bd2:nl (y.den:Int)≤268435456:=nT (Nat.le_max_right _ _) hX2;have tA:=mK (fun w (h1:IntR w (.agg #[.bool p1,.slice q1 r1 s1]) x.num) (h2:IntR w (.agg #[.bool t2,.slice u2 f2 g2]) (y.den:Int))=>Dn _ _ _ _ w (nT bn1 (by decide)) (nT bd2 (by decide)) h1 h2);have tB:=mK (fun w (h1:IntR w (.agg #[.bool p2,.slice q2 r2 s2]) y.num) (h2:IntR w (.agg #[.bool t1,.slice u1 f1 g1]) (x.den:Int))=>Dn _ _ _ _ w (nT bn2 (by decide)) (nT bd1 (by decide)) h1 h2);have tC:=mK (fun w (h1:IntR w (.agg #[.bool t1,.slice u1 f1 g1]) (x.den:Int)) (h2:IntR w (.agg #[.bool t2,.slice u2 f2 g2]) (y.den:Int))=>Dn _ _ _ _ w (nT bd1 (by decide)) (nT bd2 (by decide)) h1 h2);have bD:nl ((x.den:Int)*y.den)≤1073741824:=nT (Cl _ _) (by omega);have n1:=Cl x.num y.den;have n2:=Cl y.num x.den;have n3:=Tw (x.num*y.den) (y.num*x.den);have bN:nl (x.num*y.den+y.num*x.den)≤1073741824:=by omega
 have b1:nl (x.num*y.den)≤1073741824:=by omega
 have b2:nl (y.num*x.den)≤1073741824:=by omega
 have pm:=mK (fun v w v' h1 h2=>Ly v v' (x.num*y.den) (y.num*x.den) w b1 b2 h1 h2);have lo:=mK (fun v w' v' (hb:w.heap.size+3≤w'.heap.size) h1 h2=>Hd (w.heap.size+3) v v' (x.num*y.den+y.num*x.den) ((x.den:Int)*y.den) w' hb bN bD (Ke x y) h1 h2);clear n1 n2 n3 b1 b2;replace H1:=mK H1;replace H2:=mK H2;clear h1 h2;go_enter Tryz.func218,Tryz.ntmps218;go_wp2_with fail;obtain ⟨wb,hwb⟩:=nmE (((w.alloc (.cells #[.bool p1,.slice q1 r1 s1,.bool t1,.slice u1 f1 g1] 28)).alloc (.cells #[.bool p2,.slice q2 r2 s2,.bool t2,.slice u2 f2 g2] 28)).alloc (.cells #[.bool false,.slice none 0 0,.bool false,.slice none 0 0] 28));have hE:Ext w wb:=by rw [hwb];exact ((((xR w).al _).al _).al _)
 obtain ⟨c10,c11,c12,c13⟩:=ceX3 (aL30 hwb);obtain ⟨c20,c21,c22,c23⟩:=ceX3 (aL31 hwb);have hB:=mK (fun W (e:Ext wb W)=>e.blk (aL32 hwb));have hsz:w.heap.size+3≤wb.heap.size:=by rw [hwb];simp
 replace H1:=mK (H1.out.ext hE);replace H2:=mK (H2.out.ext hE);rw [←hwb];replace hE:=mK hE;clear hwb;apply Ak [.val _,.val _,.val _,.val _,.pred (fun W v=>IntO W (w.heap.size+3) v (x.num*y.den)),.val _,.val _,.val _,.val _,.pred (fun W v=>IntO W (w.heap.size+3) v (y.num*x.den)),.pred (fun W v=>IntO W (w.heap.size+3) v (x.num*y.den+y.num*x.den)),.val _,.val _,.val _,.val _,.pred (fun W v=>IntO W (w.heap.size+3) v ((x.den:Int)*y.den)),.pred (fun W v=>FracO W (w.heap.size+3) v (Rat.divInt (x.num*y.den+y.num*x.den) (x.den*y.den)))] (by kernel_rfl) (stable_vals _ (stable_vals _ (stable_vals _ (stable_vals _ (Av _ _ (stable_vals _ (stable_vals _ (stable_vals _ (stable_vals _ (Av _ _ (Av _ _ (stable_vals _ (stable_vals _ (stable_vals _ (stable_vals _ (Av _ _ (At _ _ trivial)))))))))))))))));refine ⟨fun W hW _=>by go_simp;exact ⟨xR _,rfl⟩,?_⟩;refine ⟨fun W hW _=>by go_simp;exact ⟨xR _,rfl⟩,?_⟩;refine ⟨fun W hW _=>by go_simp;exact ⟨xR _,rfl⟩,?_⟩;refine ⟨fun W hW _=>by go_simp;exact ⟨xR _,rfl⟩,?_⟩;refine ⟨fun W hW hF=>?g4,fun v104=>?_⟩
 case g4=>
  clear hF;go_simp;refine (tA.out W (H1.out.num.ext hW) (H2.out.den.ext hW)).mono ?_;rintro e w' ⟨v,rfl,h1,h2⟩;exact ⟨v,rfl,h1,h2.mono (nT hsz hW.size)⟩
 refine ⟨fun W hW _=>by go_simp;exact ⟨xR _,rfl⟩,?_⟩;refine ⟨fun W hW _=>by go_simp;exact ⟨xR _,rfl⟩,?_⟩;refine ⟨fun W hW _=>by go_simp;exact ⟨xR _,rfl⟩,?_⟩;refine ⟨fun W hW _=>by go_simp;exact ⟨xR _,rfl⟩,?_⟩;refine ⟨fun W hW hF=>?g9,fun v109=>?_⟩
 case g9=>
  clear hF;go_simp;refine (tB.out W (H2.out.num.ext hW) (H1.out.den.ext hW)).mono ?_;rintro e w' ⟨v,rfl,h1,h2⟩;exact ⟨v,rfl,h1,h2.mono (nT hsz hW.size)⟩
 refine ⟨fun W hW hF=>?g10,fun v110=>?_⟩
 case g10=>
  have d4:Hid (IntO W (w.heap.size+3) v104 (x.num*y.den)):=hF.2.1 (by kernel_rfl);have d9:Hid (IntO W (w.heap.size+3) v109 (y.num*x.den)):=hF.1 (by kernel_rfl);clear hF;go_simp;refine (pm.out _ W _ d4.out.r d9.out.r).mono ?_;rintro e w' ⟨v,rfl,h1,h2⟩;exact ⟨v,rfl,h1,h2.mono (nT hsz hW.size)⟩
 refine ⟨fun W hW _=>by go_simp;exact ⟨xR _,rfl⟩,?_⟩;refine ⟨fun W hW _=>by go_simp;exact ⟨xR _,rfl⟩,?_⟩;refine ⟨fun W hW _=>by go_simp;exact ⟨xR _,rfl⟩,?_⟩;refine ⟨fun W hW _=>by go_simp;exact ⟨xR _,rfl⟩,?_⟩;refine ⟨fun W hW hF=>?g15,fun v115=>?_⟩
 case g15=>
  clear hF;go_simp;refine (tC.out W (H1.out.den.ext hW) (H2.out.den.ext hW)).mono ?_;rintro e w' ⟨v,rfl,h1,h2⟩;exact ⟨v,rfl,h1,h2.mono (nT hsz hW.size)⟩
 refine ⟨fun W hW hF=>?g16,fun v116=>fun W hW hF=>?fin⟩
 case g16=>
  have d10:Hid (IntO W (w.heap.size+3) v110 (x.num*y.den+y.num*x.den)):=hF.2.1 (by kernel_rfl);have d15:Hid (IntO W (w.heap.size+3) v115 ((x.den:Int)*y.den)):=hF.1 (by kernel_rfl);clear hF;go_simp;refine (lo.out _ W _ (nT hsz hW.size) d10.out d15.out).mono ?_;rintro e w' ⟨v,rfl,h1,h2⟩;exact ⟨v,rfl,h1,h2⟩
 case fin=>
  have d16:FracO W (w.heap.size+3) v116 (Rat.divInt (x.num*y.den+y.num*x.den) (x.den*y.den)):=hF.1 rfl;obtain ⟨x1,x2,x3,x4,y1,y2,y3,y4,rfl⟩:=d16.r.shape;have R:=d16;have hBW:=hB.out W hW;have FR:=((R.row (g:=w.heap.size+2) (by omega) #[.bool x1,.slice x2 x3 x4,.bool y1,.slice y2 y3 y4]).mono (show w.heap.size≤w.heap.size+3 by omega))
  have FE:=mK ((hE.out.trans hW).row (show w.heap.size≤w.heap.size+2 by omega) #[.bool x1,.slice x2 x3 x4,.bool y1,.slice y2 y3 y4]);rw [Ww] at FR;replace FR:=mK FR;clear hF R c10 c11 c12 c13 c20 c21 c22 c23 hW;go_simp;go_wp2_with (refine wpList_store_row rfl 28 (.tmp 4) (.tmp 21) rfl (w.heap.size+2) #[.bool x1,.slice x2 x3 x4,.bool y1,.slice y2 y3 y4] rfl rfl 28 _ hBW (by kernel_rfl) rfl (by kernel_rfl) ?_);exact bodyPost_ret (results_cell_row rfl _ _ (w.heap.size+2) 28 #[.bool x1,.slice x2 x3 x4,.bool y1,.slice y2 y3 y4] (0,0) _ rfl (setRow_heap _ _ _ _ _ _ hBW) Tryz.underlying28 rfl (by kernel_rfl)) rfl ⟨_,rfl,FE.out,FR.out⟩
theorem Lc (v1 v2:Value)(x y:Rat)(w:World)(hX1:nf x≤268435456)(hX2:nf y≤268435456)(h1:FracR w v1 x)(h2:FracR w v2 y) :
  Calls Tryz.prog 219 #[v1,v2] w fun e w'=>∃ v,e=.returned v∧Ext w w'∧FracO w' w.heap.size v (x-y):=by
 have H1:=h1;have H2:=h2;obtain ⟨p1,q1,r1,s1,t1,u1,f1,g1,rfl⟩:=h1.shape;obtain ⟨p2,q2,r2,s2,t2,u2,f2,g2,rfl⟩:=h2.shape;have bn1:nl x.num≤268435456:=nT (Nat.le_max_left _ _) hX1;have bd1:nl (x.den:Int)≤268435456:=nT (Nat.le_max_right _ _) hX1;have bn2:nl y.num≤268435456:=nT (Nat.le_max_left _ _) hX2;have bd2:nl (y.den:Int)≤268435456:=nT (Nat.le_max_right _ _) hX2;have tA:=mK (fun w (h1:IntR w (.agg #[.bool p1,.slice q1 r1 s1]) x.num) (h2:IntR w (.agg #[.bool t2,.slice u2 f2 g2]) (y.den:Int))=>Dn _ _ _ _ w (nT bn1 (by decide)) (nT bd2 (by decide)) h1 h2);have tB:=mK (fun w (h1:IntR w (.agg #[.bool p2,.slice q2 r2 s2]) y.num) (h2:IntR w (.agg #[.bool t1,.slice u1 f1 g1]) (x.den:Int))=>Dn _ _ _ _ w (nT bn2 (by decide)) (nT bd1 (by decide)) h1 h2);have tC:=mK (fun w (h1:IntR w (.agg #[.bool t1,.slice u1 f1 g1]) (x.den:Int)) (h2:IntR w (.agg #[.bool t2,.slice u2 f2 g2]) (y.den:Int))=>Dn _ _ _ _ w (nT bd1 (by decide)) (nT bd2 (by decide)) h1 h2);have bD:nl ((x.den:Int)*y.den)≤1073741824:=nT (Cl _ _) (by omega);have n1:=Cl x.num y.den;have n2:=Cl y.num x.den;have n3:=Abf (x.num*y.den) (y.num*x.den);have bN:nl (x.num*y.den-y.num*x.den)≤1073741824:=by omega
 have b1:nl (x.num*y.den)≤1073741824:=by omega
 have b2:nl (y.num*x.den)≤1073741824:=by omega
 have pm:=mK (fun v w v' h1 h2=>Wf v v' (x.num*y.den) (y.num*x.den) w b1 b2 h1 h2);have lo:=mK (fun v w' v' (hb:w.heap.size+3≤w'.heap.size) h1 h2=>Hd (w.heap.size+3) v v' (x.num*y.den-y.num*x.den) ((x.den:Int)*y.den) w' hb bN bD (Ke x y) h1 h2);clear n1 n2 n3 b1 b2;replace H1:=mK H1;replace H2:=mK H2;clear h1 h2;go_enter Tryz.func219,Tryz.ntmps219;go_wp2_with fail;obtain ⟨wb,hwb⟩:=nmE (((w.alloc (.cells #[.bool p1,.slice q1 r1 s1,.bool t1,.slice u1 f1 g1] 28)).alloc (.cells #[.bool p2,.slice q2 r2 s2,.bool t2,.slice u2 f2 g2] 28)).alloc (.cells #[.bool false,.slice none 0 0,.bool false,.slice none 0 0] 28));have hE:Ext w wb:=by rw [hwb];exact ((((xR w).al _).al _).al _)
 obtain ⟨c10,c11,c12,c13⟩:=ceX3 (aL30 hwb);obtain ⟨c20,c21,c22,c23⟩:=ceX3 (aL31 hwb);have hB:=mK (fun W (e:Ext wb W)=>e.blk (aL32 hwb));have hsz:w.heap.size+3≤wb.heap.size:=by rw [hwb];simp
 replace H1:=mK (H1.out.ext hE);replace H2:=mK (H2.out.ext hE);rw [←hwb];replace hE:=mK hE;clear hwb;apply Ak [.val _,.val _,.val _,.val _,.pred (fun W v=>IntO W (w.heap.size+3) v (x.num*y.den)),.val _,.val _,.val _,.val _,.pred (fun W v=>IntO W (w.heap.size+3) v (y.num*x.den)),.pred (fun W v=>IntO W (w.heap.size+3) v (x.num*y.den-y.num*x.den)),.val _,.val _,.val _,.val _,.pred (fun W v=>IntO W (w.heap.size+3) v ((x.den:Int)*y.den)),.pred (fun W v=>FracO W (w.heap.size+3) v (Rat.divInt (x.num*y.den-y.num*x.den) (x.den*y.den)))] (by kernel_rfl) (stable_vals _ (stable_vals _ (stable_vals _ (stable_vals _ (Av _ _ (stable_vals _ (stable_vals _ (stable_vals _ (stable_vals _ (Av _ _ (Av _ _ (stable_vals _ (stable_vals _ (stable_vals _ (stable_vals _ (Av _ _ (At _ _ trivial)))))))))))))))));refine ⟨fun W hW _=>by go_simp;exact ⟨xR _,rfl⟩,?_⟩;refine ⟨fun W hW _=>by go_simp;exact ⟨xR _,rfl⟩,?_⟩;refine ⟨fun W hW _=>by go_simp;exact ⟨xR _,rfl⟩,?_⟩;refine ⟨fun W hW _=>by go_simp;exact ⟨xR _,rfl⟩,?_⟩;refine ⟨fun W hW hF=>?g4,fun v104=>?_⟩
 case g4=>
  clear hF;go_simp;refine (tA.out W (H1.out.num.ext hW) (H2.out.den.ext hW)).mono ?_;rintro e w' ⟨v,rfl,h1,h2⟩;exact ⟨v,rfl,h1,h2.mono (nT hsz hW.size)⟩
 refine ⟨fun W hW _=>by go_simp;exact ⟨xR _,rfl⟩,?_⟩;refine ⟨fun W hW _=>by go_simp;exact ⟨xR _,rfl⟩,?_⟩;refine ⟨fun W hW _=>by go_simp;exact ⟨xR _,rfl⟩,?_⟩;refine ⟨fun W hW _=>by go_simp;exact ⟨xR _,rfl⟩,?_⟩;refine ⟨fun W hW hF=>?g9,fun v109=>?_⟩
 case g9=>
  clear hF;go_simp;refine (tB.out W (H2.out.num.ext hW) (H1.out.den.ext hW)).mono ?_;rintro e w' ⟨v,rfl,h1,h2⟩;exact ⟨v,rfl,h1,h2.mono (nT hsz hW.size)⟩
 refine ⟨fun W hW hF=>?g10,fun v110=>?_⟩
 case g10=>
  have d4:Hid (IntO W (w.heap.size+3) v104 (x.num*y.den)):=hF.2.1 (by kernel_rfl);have d9:Hid (IntO W (w.heap.size+3) v109 (y.num*x.den)):=hF.1 (by kernel_rfl);clear hF;go_simp;refine (pm.out _ W _ d4.out.r d9.out.r).mono ?_;rintro e w' ⟨v,rfl,h1,h2⟩;exact ⟨v,rfl,h1,h2.mono (nT hsz hW.size)⟩
 refine ⟨fun W hW _=>by go_simp;exact ⟨xR _,rfl⟩,?_⟩;refine ⟨fun W hW _=>by go_simp;exact ⟨xR _,rfl⟩,?_⟩;refine ⟨fun W hW _=>by go_simp;exact ⟨xR _,rfl⟩,?_⟩;refine ⟨fun W hW _=>by go_simp;exact ⟨xR _,rfl⟩,?_⟩;refine ⟨fun W hW hF=>?g15,fun v115=>?_⟩
 case g15=>
  clear hF;go_simp;refine (tC.out W (H1.out.den.ext hW) (H2.out.den.ext hW)).mono ?_;rintro e w' ⟨v,rfl,h1,h2⟩;exact ⟨v,rfl,h1,h2.mono (nT hsz hW.size)⟩
 refine ⟨fun W hW hF=>?g16,fun v116=>fun W hW hF=>?fin⟩
 case g16=>
  have d10:Hid (IntO W (w.heap.size+3) v110 (x.num*y.den-y.num*x.den)):=hF.2.1 (by kernel_rfl);have d15:Hid (IntO W (w.heap.size+3) v115 ((x.den:Int)*y.den)):=hF.1 (by kernel_rfl);clear hF;go_simp;refine (lo.out _ W _ (nT hsz hW.size) d10.out d15.out).mono ?_;rintro e w' ⟨v,rfl,h1,h2⟩;exact ⟨v,rfl,h1,h2⟩
 case fin=>
  have d16:FracO W (w.heap.size+3) v116 (Rat.divInt (x.num*y.den-y.num*x.den) (x.den*y.den)):=hF.1 rfl;obtain ⟨x1,x2,x3,x4,y1,y2,y3,y4,rfl⟩:=d16.r.shape;have R:=d16;have hBW:=hB.out W hW;have FR:=((R.row (g:=w.heap.size+2) (by omega) #[.bool x1,.slice x2 x3 x4,.bool y1,.slice y2 y3 y4]).mono (show w.heap.size≤w.heap.size+3 by omega))
  have FE:=mK ((hE.out.trans hW).row (show w.heap.size≤w.heap.size+2 by omega) #[.bool x1,.slice x2 x3 x4,.bool y1,.slice y2 y3 y4]);rw [Py] at FR;replace FR:=mK FR;clear hF R c10 c11 c12 c13 c20 c21 c22 c23 hW;go_simp;go_wp2_with (refine wpList_store_row rfl 28 (.tmp 4) (.tmp 21) rfl (w.heap.size+2) #[.bool x1,.slice x2 x3 x4,.bool y1,.slice y2 y3 y4] rfl rfl 28 _ hBW (by kernel_rfl) rfl (by kernel_rfl) ?_);exact bodyPost_ret (results_cell_row rfl _ _ (w.heap.size+2) 28 #[.bool x1,.slice x2 x3 x4,.bool y1,.slice y2 y3 y4] (0,0) _ rfl (setRow_heap _ _ _ _ _ _ hBW) Tryz.underlying28 rfl (by kernel_rfl)) rfl ⟨_,rfl,FE.out,FR.out⟩
theorem Ae3 (v1 v2:Value)(x y:Rat)(w:World)(hX1:nf x≤268435456)(hX2:nf y≤268435456)(h1:FracR w v1 x)(h2:FracR w v2 y) :
  Calls Tryz.prog 217 #[v1,v2] w fun e w'=>e=.returned (.int .i64 ((x.num*y.den-y.num*x.den).sign))∧Ext w w':=by
 have H1:=h1;have H2:=h2;obtain ⟨p1,q1,r1,s1,t1,u1,f1,g1,rfl⟩:=h1.shape;obtain ⟨p2,q2,r2,s2,t2,u2,f2,g2,rfl⟩:=h2.shape;have bn1:nl x.num≤268435456:=nT (Nat.le_max_left _ _) hX1;have bd1:nl (x.den:Int)≤268435456:=nT (Nat.le_max_right _ _) hX1;have bn2:nl y.num≤268435456:=nT (Nat.le_max_left _ _) hX2;have bd2:nl (y.den:Int)≤268435456:=nT (Nat.le_max_right _ _) hX2;have tA:=mK (fun w (h1:IntR w (.agg #[.bool p1,.slice q1 r1 s1]) x.num) (h2:IntR w (.agg #[.bool t2,.slice u2 f2 g2]) (y.den:Int))=>Dn _ _ _ _ w (nT bn1 (by decide)) (nT bd2 (by decide)) h1 h2);have tB:=mK (fun w (h1:IntR w (.agg #[.bool p2,.slice q2 r2 s2]) y.num) (h2:IntR w (.agg #[.bool t1,.slice u1 f1 g1]) (x.den:Int))=>Dn _ _ _ _ w (nT bn2 (by decide)) (nT bd1 (by decide)) h1 h2);have n1:=Cl x.num y.den;have n2:=Cl y.num x.den;have b1:nl (x.num*y.den)≤1073741824:=by omega
 have b2:nl (y.num*x.den)≤1073741824:=by omega
 have cm:=mK (fun v w v' h1 h2=>Kt v v' (x.num*y.den) (y.num*x.den) w b1 b2 h1 h2);clear n1 n2 b1 b2;replace H1:=mK H1;replace H2:=mK H2;clear h1 h2;go_enter Tryz.func217,Tryz.ntmps217;go_wp2_with fail;obtain ⟨wb,hwb⟩:=nmE ((w.alloc (.cells #[.bool p1,.slice q1 r1 s1,.bool t1,.slice u1 f1 g1] 28)).alloc (.cells #[.bool p2,.slice q2 r2 s2,.bool t2,.slice u2 f2 g2] 28));have hE:Ext w wb:=by rw [hwb];exact (((xR w).al _).al _)
 obtain ⟨c10,c11,c12,c13⟩:=ceX3 (aL20 hwb);obtain ⟨c20,c21,c22,c23⟩:=ceX3 (aL21 hwb);have hsz:w.heap.size+2≤wb.heap.size:=by rw [hwb];simp
 replace H1:=mK (H1.out.ext hE);replace H2:=mK (H2.out.ext hE);rw [←hwb];replace hE:=mK hE;clear hwb;apply Ak [.val _,.val _,.val _,.val _,.pred (fun W v=>IntO W (w.heap.size+2) v (x.num*y.den)),.val _,.val _,.val _,.val _,.pred (fun W v=>IntO W (w.heap.size+2) v (y.num*x.den)),.val (.int .i64 ((x.num*y.den-y.num*x.den).sign))] (by kernel_rfl) (stable_vals _ (stable_vals _ (stable_vals _ (stable_vals _ (Av _ _ (stable_vals _ (stable_vals _ (stable_vals _ (stable_vals _ (Av _ _ (stable_vals _ trivial)))))))))));refine ⟨fun W hW _=>by go_simp;exact ⟨xR _,rfl⟩,?_⟩;refine ⟨fun W hW _=>by go_simp;exact ⟨xR _,rfl⟩,?_⟩;refine ⟨fun W hW _=>by go_simp;exact ⟨xR _,rfl⟩,?_⟩;refine ⟨fun W hW _=>by go_simp;exact ⟨xR _,rfl⟩,?_⟩;refine ⟨fun W hW hF=>?g4,fun v104=>?_⟩
 case g4=>
  clear hF;go_simp;refine (tA.out W (H1.out.num.ext hW) (H2.out.den.ext hW)).mono ?_;rintro e w' ⟨v,rfl,h1,h2⟩;exact ⟨v,rfl,h1,h2.mono (nT hsz hW.size)⟩
 refine ⟨fun W hW _=>by go_simp;exact ⟨xR _,rfl⟩,?_⟩;refine ⟨fun W hW _=>by go_simp;exact ⟨xR _,rfl⟩,?_⟩;refine ⟨fun W hW _=>by go_simp;exact ⟨xR _,rfl⟩,?_⟩;refine ⟨fun W hW _=>by go_simp;exact ⟨xR _,rfl⟩,?_⟩;refine ⟨fun W hW hF=>?g9,fun v109=>?_⟩
 case g9=>
  clear hF;go_simp;refine (tB.out W (H2.out.num.ext hW) (H1.out.den.ext hW)).mono ?_;rintro e w' ⟨v,rfl,h1,h2⟩;exact ⟨v,rfl,h1,h2.mono (nT hsz hW.size)⟩
 refine ⟨fun W hW hF=>?g10,fun W hW hF=>?fin⟩
 case g10=>
  have d4:Hid (IntO W (w.heap.size+2) v104 (x.num*y.den)):=hF.2.1 (by kernel_rfl);have d9:Hid (IntO W (w.heap.size+2) v109 (y.num*x.den)):=hF.1 (by kernel_rfl);clear hF;go_simp;refine (cm.out _ W _ d4.out.r d9.out.r).mono ?_;rintro e w' ⟨rfl,hE⟩;exact ⟨rfl,hE⟩
 case fin=>
  have FE:=mK (hE.out.trans hW);clear hF hW;go_simp;go_wp2_with fail;go_ret;exact ⟨rfl,FE.out⟩
theorem Adl:nl 0≤1073741824:=by unfold nl;simp [Az]
theorem Ka:nl 1≤1073741824:=by unfold nl;simp;rw [Ht (by omega) (by omega)];simp
theorem Jy (v v0:Value)(X:Int)(w:World)(hX:nl X≤1073741824)(h1:IntR w v X)(h0:IntR w v0 0) :
  Calls Tryz.prog 250 #[v,v0] w fun e w'=>∃ v,e=.returned v∧Ext w w'∧IntO w' w.heap.size v X:=by
 have:=Ly v v0 X 0 w hX Adl h1 h0
 rwa [Int.add_zero] at this

theorem Agl (v1:Value)(x:Rat)(w:World)(hX1:nf x≤268435456)(h1:FracR w v1 x) :
  Calls Tryz.prog 275 #[v1] w fun e w'=>∃ v,e=.returned v∧Ext w w'∧FracO w' w.heap.size v (-x):=by
 have H1:=h1;obtain ⟨p1,q1,r1,s1,t1,u1,f1,g1,rfl⟩:=h1.shape;have bn1:nl x.num≤268435456:=nT (Nat.le_max_left _ _) hX1;have bd1:nl (x.den:Int)≤268435456:=nT (Nat.le_max_right _ _) hX1;have ho:=mK (fun w=>of_c 0 w (by omega) (by omega));have tt:=mK (fun w (h:IntR w (.agg #[.bool p1,.slice q1 r1 s1]) x.num)=>Gv _ _ w (nT bn1 (by decide)) h);have pz:=mK (fun w v0 (h:IntR w (.agg #[.bool t1,.slice u1 f1 g1]) (x.den:Int)) h0=>Jy _ v0 _ w (nT bd1 (by decide)) h h0);replace H1:=mK H1;clear h1;go_enter Tryz.func275,Tryz.ntmps275;go_wp2_with fail;obtain ⟨wb,hwb⟩:=nmE ((w.alloc (.cells #[.bool p1,.slice q1 r1 s1,.bool t1,.slice u1 f1 g1] 28)).alloc (.cells #[.bool false,.slice none 0 0,.bool false,.slice none 0 0] 28));have hE:Ext w wb:=by rw [hwb];exact (((xR w).al _).al _)
 obtain ⟨c10,c11,c12,c13⟩:=ceX3 (aL20 hwb);have hB:=mK (fun W (e:Ext wb W)=>e.blk (aL21 hwb));have hsz:w.heap.size+2≤wb.heap.size:=by rw [hwb];simp
 replace H1:=mK (H1.out.ext hE);rw [←hwb];replace hE:=mK hE;clear hwb;apply Ak [.val _,.val _,.pred (fun W v=>IntO W (w.heap.size+2) v (-x.num)),.val _,.val _,.pred (fun W v=>IntO W (w.heap.size+2) v (0)),.pred (fun W v=>IntO W (w.heap.size+2) v ((x.den:Int)))] (by kernel_rfl) (stable_vals _ (stable_vals _ (Av _ _ (stable_vals _ (stable_vals _ (Av _ _ (Av _ _ trivial)))))));refine ⟨fun W hW _=>by go_simp;exact ⟨xR _,rfl⟩,?_⟩;refine ⟨fun W hW _=>by go_simp;exact ⟨xR _,rfl⟩,?_⟩;refine ⟨fun W hW hF=>?g2,fun v102=>?_⟩
 case g2=>
  clear hF;go_simp;refine (tt.out W (H1.out.num.ext hW)).mono ?_;rintro e w' ⟨v,rfl,h1,h2⟩;exact ⟨v,rfl,h1,h2.mono (nT hsz hW.size)⟩
 refine ⟨fun W hW _=>by go_simp;exact ⟨xR _,rfl⟩,?_⟩;refine ⟨fun W hW _=>by go_simp;exact ⟨xR _,rfl⟩,?_⟩;refine ⟨fun W hW hF=>?g5,fun v105=>?_⟩
 case g5=>
  clear hF;go_simp;refine (ho.out W).mono ?_;rintro e w' ⟨v,rfl,h1,h2⟩;exact ⟨v,rfl,h1,h2.mono (nT hsz hW.size)⟩
 refine ⟨fun W hW hF=>?g6,fun v106=>fun W hW hF=>?fin⟩
 case g6=>
  have d5:Hid (IntO W (w.heap.size+2) v105 (0)):=hF.1 (by kernel_rfl);clear hF;go_simp;refine (pz.out W _ (H1.out.den.ext hW) d5.out.r).mono ?_;rintro e w' ⟨v,rfl,h1,h2⟩;exact ⟨v,rfl,h1,h2.mono (nT hsz hW.size)⟩
 case fin=>
  have d2:IntO W (w.heap.size+2) v102 (-x.num):=hF.2.2.1 rfl;have d6:IntO W (w.heap.size+2) v106 ((x.den:Int)):=hF.1 rfl;obtain ⟨x1,x2,x3,x4,rfl⟩:=d2.r.shape;obtain ⟨y1,y2,y3,y4,rfl⟩:=d6.r.shape;have R:FracO W (w.heap.size+2) (.agg #[.bool x1,.slice x2 x3 x4,.bool y1,.slice y2 y3 y4]) (-x):=⟨_,_,_,_,_,_,_,_,rfl,by exact d2,by exact d6⟩
  have hBW:=hB.out W hW;have FR:=((R.row (g:=w.heap.size+1) (by omega) #[.bool x1,.slice x2 x3 x4,.bool y1,.slice y2 y3 y4]).mono (show w.heap.size≤w.heap.size+2 by omega))
  have FE:=mK ((hE.out.trans hW).row (show w.heap.size≤w.heap.size+1 by omega) #[.bool x1,.slice x2 x3 x4,.bool y1,.slice y2 y3 y4]);replace FR:=mK FR;clear hF R c10 c11 c12 c13 hW;go_simp;go_wp2_with (refine wpList_store_row rfl 28 (.tmp 2) (.tmp 10) rfl (w.heap.size+1) #[.bool x1,.slice x2 x3 x4,.bool y1,.slice y2 y3 y4] rfl rfl 28 _ hBW (by kernel_rfl) rfl (by kernel_rfl) ?_);exact bodyPost_ret (results_cell_row rfl _ _ (w.heap.size+1) 28 #[.bool x1,.slice x2 x3 x4,.bool y1,.slice y2 y3 y4] (0,0) _ rfl (setRow_heap _ _ _ _ _ _ hBW) Tryz.underlying28 rfl (by kernel_rfl)) rfl ⟨_,rfl,FE.out,FR.out⟩
theorem Vd (v1:Value)(x:Rat)(w:World)(hX1:nf x≤268435456)(h1:FracR w v1 x) :
  Calls Tryz.prog 200 #[v1] w fun e w'=>∃ v,e=.returned v∧Ext w w'∧FracO w' w.heap.size v (x):=by
 have H1:=h1;obtain ⟨p1,q1,r1,s1,t1,u1,f1,g1,rfl⟩:=h1.shape;have bn1:nl x.num≤268435456:=nT (Nat.le_max_left _ _) hX1;have bd1:nl (x.den:Int)≤268435456:=nT (Nat.le_max_right _ _) hX1;have ho:=mK (fun w=>of_c 0 w (by omega) (by omega));have pzn:=mK (fun w v0 (h:IntR w (.agg #[.bool p1,.slice q1 r1 s1]) x.num) h0=>Jy _ v0 _ w (nT bn1 (by decide)) h h0);have pz:=mK (fun w v0 (h:IntR w (.agg #[.bool t1,.slice u1 f1 g1]) (x.den:Int)) h0=>Jy _ v0 _ w (nT bd1 (by decide)) h h0);replace H1:=mK H1;clear h1;go_enter Tryz.func200,Tryz.ntmps200;go_wp2_with fail;obtain ⟨wb,hwb⟩:=nmE ((w.alloc (.cells #[.bool p1,.slice q1 r1 s1,.bool t1,.slice u1 f1 g1] 28)).alloc (.cells #[.bool false,.slice none 0 0,.bool false,.slice none 0 0] 28));have hE:Ext w wb:=by rw [hwb];exact (((xR w).al _).al _)
 obtain ⟨c10,c11,c12,c13⟩:=ceX3 (aL20 hwb);have hB:=mK (fun W (e:Ext wb W)=>e.blk (aL21 hwb));have hsz:w.heap.size+2≤wb.heap.size:=by rw [hwb];simp
 replace H1:=mK (H1.out.ext hE);rw [←hwb];replace hE:=mK hE;clear hwb;refine (ho.out wb).mono ?_;rintro e w1 ⟨vo,rfl,hE1,hvo⟩;obtain ⟨ob,oa,on,oc,rfl⟩:=hvo.r.shape;have hE1':=mK hE1;have hvo':=mK hvo.r;clear hE1 hvo;go_wp2_with fail;obtain ⟨w2,hw2⟩:=nmE (w1.alloc (.cells #[.bool ob,.slice oa on oc] 26));rw [←hw2];have hE2:Ext wb w2:=by rw [hw2];exact hE1'.out.al _
 obtain ⟨o0,o1⟩:=ceX1 (aL10 hw2);have Ho:=mK (show IntR w2 (.agg #[.bool ob,.slice oa on oc]) 0 by rw [hw2];exact hvo'.out.ext ((xR _).al _));replace c10:=exL c10 hE2;replace c11:=exL c11 hE2;replace c12:=exL c12 hE2;replace c13:=exL c13 hE2;replace hB:=mK (fun W (e:Ext w2 W)=>hB.out W (hE2.trans e));replace H1:=mK (H1.out.ext hE2);replace hE:=mK (hE.out.trans hE2);replace hsz:w.heap.size+2≤w2.heap.size:=nT hsz hE2.size;clear hE1' hvo' hw2 hE2;apply Ak [.val _,.val _,.val _,.pred (fun W v=>IntO W (w.heap.size+2) v (x.num)),.val _,.val _,.val _,.pred (fun W v=>IntO W (w.heap.size+2) v ((x.den:Int)))] (by kernel_rfl) (stable_vals _ (stable_vals _ (stable_vals _ (Av _ _ (stable_vals _ (stable_vals _ (stable_vals _ (Av _ _ trivial))))))));refine ⟨fun W hW _=>by go_simp;exact ⟨xR _,rfl⟩,?_⟩;refine ⟨fun W hW _=>by go_simp;exact ⟨xR _,rfl⟩,?_⟩;refine ⟨fun W hW _=>by go_simp;exact ⟨xR _,rfl⟩,?_⟩;refine ⟨fun W hW hF=>?g3,fun v103=>?_⟩
 case g3=>
  clear hF;go_simp;refine (pzn.out W _ (H1.out.num.ext hW) (Ho.out.ext hW)).mono ?_;rintro e w' ⟨v,rfl,h1,h2⟩;exact ⟨v,rfl,h1,h2.mono (nT hsz hW.size)⟩
 refine ⟨fun W hW _=>by go_simp;exact ⟨xR _,rfl⟩,?_⟩;refine ⟨fun W hW _=>by go_simp;exact ⟨xR _,rfl⟩,?_⟩;refine ⟨fun W hW _=>by go_simp;exact ⟨xR _,rfl⟩,?_⟩;refine ⟨fun W hW hF=>?g7,fun v107=>fun W hW hF=>?fin⟩
 case g7=>
  clear hF;go_simp;refine (pz.out W _ (H1.out.den.ext hW) (Ho.out.ext hW)).mono ?_;rintro e w' ⟨v,rfl,h1,h2⟩;exact ⟨v,rfl,h1,h2.mono (nT hsz hW.size)⟩
 case fin=>
  have d3:IntO W (w.heap.size+2) v103 (x.num):=hF.2.1 rfl;have d7:IntO W (w.heap.size+2) v107 ((x.den:Int)):=hF.1 rfl;obtain ⟨x1,x2,x3,x4,rfl⟩:=d3.r.shape;obtain ⟨y1,y2,y3,y4,rfl⟩:=d7.r.shape;have R:FracO W (w.heap.size+2) (.agg #[.bool x1,.slice x2 x3 x4,.bool y1,.slice y2 y3 y4]) (x):=⟨_,_,_,_,_,_,_,_,rfl,by exact d3,by exact d7⟩
  have hBW:=hB.out W hW;have FR:=((R.row (g:=w.heap.size+1) (by omega) #[.bool x1,.slice x2 x3 x4,.bool y1,.slice y2 y3 y4]).mono (show w.heap.size≤w.heap.size+2 by omega))
  have FE:=mK ((hE.out.trans hW).row (show w.heap.size≤w.heap.size+1 by omega) #[.bool x1,.slice x2 x3 x4,.bool y1,.slice y2 y3 y4]);replace FR:=mK FR;clear hF R c10 c11 c12 c13 hW;go_simp;go_wp2_with (refine wpList_store_row rfl 28 (.tmp 2) (.tmp 13) rfl (w.heap.size+1) #[.bool x1,.slice x2 x3 x4,.bool y1,.slice y2 y3 y4] rfl rfl 28 _ hBW (by kernel_rfl) rfl (by kernel_rfl) ?_);exact bodyPost_ret (results_cell_row rfl _ _ (w.heap.size+1) 28 #[.bool x1,.slice x2 x3 x4,.bool y1,.slice y2 y3 y4] (0,0) _ rfl (setRow_heap _ _ _ _ _ _ hBW) Tryz.underlying28 rfl (by kernel_rfl)) rfl ⟨_,rfl,FE.out,FR.out⟩
theorem Abg {n:Int}(h0:-9223372036854775808≤n)(h1:n<9223372036854775808):nl n≤1073741824:=by
 unfold nl;exact nT (Cb (k:=2) (by omega)) (by omega)
theorem Op (n d:Int)(w:World)(h0:-9223372036854775808≤n)(h1:n<9223372036854775808)(h2:-9223372036854775808≤d)(h3:d<9223372036854775808)(hd:d≠0) :
  Calls Tryz.prog 156 #[.int .i64 n,.int .i64 d] w fun e w'=>∃ v,e=.returned v∧Ext w w'∧FracO w' w.heap.size v (Rat.divInt n d):=by
 have o1:=mK (fun w=>of_c n w h0 h1);have o2:=mK (fun w=>of_c d w h2 h3);have lo:=mK (fun v w' v' (hb:w.heap.size+1≤w'.heap.size) k1 k2=>Hd (w.heap.size+1) v v' n d w' hb (Abg h0 h1) (Abg h2 h3) hd k1 k2);clear h0 h1 h2 h3 hd;go_enter Tryz.func156,Tryz.ntmps156;go_wp2_with fail;refine (o1.out _).mono ?_;rintro e w1 ⟨x,rfl,hE1,hx⟩;have hB:=mK (hE1.blk (heap_alloc_new _ _));have hs1:=hE1.size;simp at hs1;replace hE1:=mK (((xR w).al _).trans hE1);replace hx:=mK hx;go_wp2_with fail;refine (o2.out _).mono ?_;rintro e w2 ⟨y,rfl,hE2,hy⟩;have hs2:=hE2.size;have hx2:=mK ((hx.out.ext hE2).mono (show w.heap.size+1≤_ by simp));replace hy:=mK (hy.mono (show w.heap.size+1≤_ by omega));replace hB:=mK (hE2.blk hB.out);replace hE1:=mK (hE1.out.trans hE2);clear hE2 hx;go_wp2_with fail;refine (lo.out _ _ _ (by omega) hx2.out hy.out).mono ?_;rintro e w3 ⟨v,rfl,hE3,hv⟩;obtain ⟨x1,x2,x3,x4,y1,y2,y3,y4,rfl⟩:=hv.r.shape;replace hB:=hE3.blk hB.out;have FR:=mK ((hv.row (g:=w.heap.size) (by omega) #[.bool x1,.slice x2 x3 x4,.bool y1,.slice y2 y3 y4]).mono (show w.heap.size≤w.heap.size+1 by omega));have FE:=mK ((hE1.out.trans hE3).row (nR _) #[.bool x1,.slice x2 x3 x4,.bool y1,.slice y2 y3 y4]);clear hv hE3 hE1;go_wp2_with (refine wpList_store_row rfl 28 (.tmp 4) (.tmp 9) rfl w.heap.size #[.bool x1,.slice x2 x3 x4,.bool y1,.slice y2 y3 y4] rfl rfl 28 _ hB (by kernel_rfl) rfl (by kernel_rfl) ?_);exact bodyPost_ret (results_cell_row rfl _ _ w.heap.size 28 #[.bool x1,.slice x2 x3 x4,.bool y1,.slice y2 y3 y4] (0,0) _ rfl (setRow_heap _ _ _ _ _ _ hB) Tryz.underlying28 rfl (by kernel_rfl)) rfl ⟨_,rfl,FE.out,FR.out⟩
theorem Aev (w:World):Calls Tryz.prog 259 #[] w fun e w'=>∃ v,e=.returned v∧Ext w w'∧FracO w' w.heap.size v 1:=by
 have o1:=mK (fun w=>Op 1 1 w (by omega) (by omega) (by omega) (by omega) (by omega));go_enter Tryz.func259,Tryz.ntmps259;go_wp2_with fail;refine (o1.out _).mono ?_;rintro e w3 ⟨v,rfl,hE3,hv⟩;obtain ⟨x1,x2,x3,x4,y1,y2,y3,y4,rfl⟩:=hv.r.shape;have hB:=hE3.blk (heap_alloc_new _ _);rw [show Rat.divInt 1 1=(1:Rat) by decide] at hv;have FR:=mK ((hv.row (g:=w.heap.size) (by simp) #[.bool x1,.slice x2 x3 x4,.bool y1,.slice y2 y3 y4]).mono (show w.heap.size≤_ by simp));have FE:=mK ((((xR w).al _).trans hE3).row (nR _) #[.bool x1,.slice x2 x3 x4,.bool y1,.slice y2 y3 y4]);clear hv hE3;go_wp2_with (refine wpList_store_row rfl 28 (.tmp 0) (.tmp 1) rfl w.heap.size #[.bool x1,.slice x2 x3 x4,.bool y1,.slice y2 y3 y4] rfl rfl 28 _ hB (by kernel_rfl) rfl (by kernel_rfl) ?_);exact bodyPost_ret (results_cell_row rfl _ _ w.heap.size 28 #[.bool x1,.slice x2 x3 x4,.bool y1,.slice y2 y3 y4] (0,0) _ rfl (setRow_heap _ _ _ _ _ _ hB) Tryz.underlying28 rfl (by kernel_rfl)) rfl ⟨_,rfl,FE.out,FR.out⟩
theorem Rq (w:World):Calls Tryz.prog 260 #[] w fun e w'=>∃ v,e=.returned v∧Ext w w'∧FracO w' w.heap.size v 0:=by
 have o1:=mK (fun w=>of_c 1 w (by omega) (by omega));go_enter Tryz.func260,Tryz.ntmps260;go_wp2_with fail;refine (o1.out _).mono ?_;rintro e w3 ⟨v,rfl,hE3,hv⟩;obtain ⟨y1,y2,y3,y4,rfl⟩:=hv.r.shape;have hB:=hE3.blk (heap_alloc_new _ _);have hz:IntO w3 (w.alloc (.cells #[.bool false,.slice none 0 0,.bool false,.slice none 0 0] 28)).heap.size (.agg #[.bool false,.slice none 0 0]) 0:=⟨.slice none 0 0,by simp,by simp [Az];exact Fh _ _⟩
 have R:FracO w3 (w.alloc (.cells #[.bool false,.slice none 0 0,.bool false,.slice none 0 0] 28)).heap.size (.agg #[.bool false,.slice none 0 0,.bool y1,.slice y2 y3 y4]) 0:=⟨_,_,_,_,_,_,_,_,rfl,hz,hv⟩
 have FR:=mK ((R.row (g:=w.heap.size) (by simp) #[.bool false,.slice none 0 0,.bool y1,.slice y2 y3 y4]).mono (show w.heap.size≤_ by simp));have FE:=mK ((((xR w).al _).trans hE3).row (nR _) #[.bool false,.slice none 0 0,.bool y1,.slice y2 y3 y4]);clear hv hE3 hz R;go_wp2_with (refine wpList_store_row rfl 28 (.tmp 0) (.tmp 2) rfl w.heap.size #[.bool false,.slice none 0 0,.bool y1,.slice y2 y3 y4] rfl rfl 28 _ hB (by kernel_rfl) rfl (by kernel_rfl) ?_);exact bodyPost_ret (results_cell_row rfl _ _ w.heap.size 28 #[.bool false,.slice none 0 0,.bool y1,.slice y2 y3 y4] (0,0) _ rfl (setRow_heap _ _ _ _ _ _ hB) Tryz.underlying28 rfl (by kernel_rfl)) rfl ⟨_,rfl,FE.out,FR.out⟩
theorem Jt (v:Value)(x:Rat)(w:World)(hX:nf x≤268435456)(h:FracR w v x) :
  Calls Tryz.prog 116 #[v] w fun e w'=>e=.returned (.int .i64 x.num.sign)∧Ext w w':=by
 have H:=mK h;obtain ⟨x1,x2,x3,x4,y1,y2,y3,y4,rfl⟩:=h.shape;have hn:nl x.num≤1073741824:=nT (Nat.le_max_left _ _) (nT hX (by decide));have hs:=mK (fun w h=>Fz (.agg #[.bool x1,.slice x2 x3 x4]) x.num w h hn);clear h;go_enter Tryz.func116,Tryz.ntmps116;go_wp2_with fail;refine (hs.out _ (H.out.ext ((xR w).al _)).num).mono ?_;rintro e w' ⟨rfl,hE⟩;have FE:=mK (((xR w).al _).trans hE);clear hE;go_wp2_with fail;go_ret;exact ⟨rfl,FE.out⟩
end Go.Proofs.YtlknpnommcohkaaGreatDoor
