/-
  proof.may of any proof. The writer's String; how long a proof's words are. proof.Encode: proofs that go round. What is read as a proof, and when it may be: no program. row: pair, One, turned. row: Times.
-/
import Derived.Test.YtlknpnommcohkaaGreatDoorKAH
import Derived.Deep.DeepCutAuto
import Derived.Deep.CutRange
import Derived.Test.YtlknpnommcohkaaGreatDoorKAE
set_option maxHeartbeats 6400000
namespace Go.Proofs.YtlknpnommcohkaaGreatDoor
set_option maxRecDepth 100000
open Go Go.RowKit Go.Proofs
theorem AnyPf.ext {w w':World}{x:PVd}{d:AD}(h:AnyPf w x d)(e:Ext w w'):AnyPf w' x d:=by
 obtain ⟨⟨o1,f1,g1⟩,⟨o2,f2,g2⟩,⟨o3,f3,g3⟩,⟨o4,f4,g4⟩,h5,h6,h7,h8,h9,h10⟩:=h;exact ⟨⟨o1,f1,g1.ext (fun _ _ x=>x.ext e) e⟩,⟨o2,f2,g2.ext (fun _ _ x=>x.ext e) e⟩,⟨o3,f3,g3.ext (fun _ _ x=>x.ext e) e⟩,⟨o4,f4,g4.ext (fun _ _ x=>x) e⟩,h5.ext e,h6.ext e,h7.ext e,h8.ext e,h9.ext e,h10⟩
theorem Hk {w:World}{f:FV}{o:Option Rat}(h:AnyF w (.agg #[.bool f.b1,.slice f.a1 f.n1 f.c1,.bool f.b2,.slice f.a2 f.n2 f.c2]) o):f.n1≤140737488355328∧f.n2≤140737488355328:=by
 obtain ⟨b1,l1,b2,l2,⟨a1,c1,a2,c2,e,h2,h3,h4,h5⟩,h6⟩:=h;simp only [Value.agg.injEq,Array.mk.injEq,List.cons.injEq,and_true,Value.bool.injEq,Value.slice.injEq] at e;obtain ⟨-,⟨-,e1,-⟩,-,-,e2,-⟩:=e;omega
theorem ls2 {α:Type}{R:World→Value→α→Prop}{w:World}{g T:Nat}{a1 a2:α}{p q:FV}(hz:w.heap[g]? = some (.cells #[.bool p.b1,.slice p.a1 p.n1 p.c1,.bool p.b2,.slice p.a2 p.n2 p.c2,.bool q.b1,.slice q.a1 q.n1 q.c1,.bool q.b2,.slice q.a2 q.n2 q.c2] T (0,0)))(h1:R w (.agg #[.bool p.b1,.slice p.a1 p.n1 p.c1,.bool p.b2,.slice p.a2 p.n2 p.c2]) a1)(h2:R w (.agg #[.bool q.b1,.slice q.a1 q.n1 q.c1,.bool q.b2,.slice q.a2 q.n2 q.c2]) a2) :
  Ls 4 R w (.slice (some ⟨g,0,none⟩) 2 2) [(a1,.agg #[.bool p.b1,.slice p.a1 p.n1 p.c1,.bool p.b2,.slice p.a2 p.n2 p.c2]),(a2,.agg #[.bool q.b1,.slice q.a1 q.n1 q.c1,.bool q.b2,.slice q.a2 q.n2 q.c2])]:=by
 refine Gl (os:=[(a1,.agg #[.bool p.b1,.slice p.a1 p.n1 p.c1,.bool p.b2,.slice p.a2 p.n2 p.c2]),(a2,.agg #[.bool q.b1,.slice q.a1 q.n1 q.c1,.bool q.b2,.slice q.a2 q.n2 q.c2])]) hz (fun z hz=>?_) (fun z hz=>?_)
 ·simp only [List.mem_cons,List.not_mem_nil,or_false] at hz
  rcases hz with rfl|rfl
  ·exact h1
  ·exact h2
 ·simp only [List.mem_cons,List.not_mem_nil,or_false] at hz
  rcases hz with rfl|rfl<;>rfl
theorem ls1 {α:Type}{R:World→Value→α→Prop}{w:World}{g T:Nat}{a1:α}{p:FV}(hz:w.heap[g]? = some (.cells #[.bool p.b1,.slice p.a1 p.n1 p.c1,.bool p.b2,.slice p.a2 p.n2 p.c2] T (0,0)))(h1:R w (.agg #[.bool p.b1,.slice p.a1 p.n1 p.c1,.bool p.b2,.slice p.a2 p.n2 p.c2]) a1) :
  Ls 4 R w (.slice (some ⟨g,0,none⟩) 1 1) [(a1,.agg #[.bool p.b1,.slice p.a1 p.n1 p.c1,.bool p.b2,.slice p.a2 p.n2 p.c2])]:=by
 refine Gl (os:=[(a1,.agg #[.bool p.b1,.slice p.a1 p.n1 p.c1,.bool p.b2,.slice p.a2 p.n2 p.c2])]) hz (fun z hz=>?_) (fun z hz=>?_)
 ·rw [List.mem_singleton.1 hz]
  exact h1
 ·rw [List.mem_singleton.1 hz]
  rfl
theorem Em {W:World}{pp:Nat}{x:PVd}(h:W.heap[pp]? = some (.cells (pfC x) 39 (0,0))) :
  W.cell? ⟨pp,0,none⟩=some (.int .u8 x.kd)∧W.cell? ⟨pp,1,none⟩=some x.s1∧W.cell? ⟨pp,14,none⟩=some (.int .i64 x.st)∧W.cell? ⟨pp,15,none⟩=some x.s2∧W.cell? ⟨pp,16,none⟩=some x.s3∧W.cell? ⟨pp,21,none⟩=some x.s4∧W.cell? ⟨pp,26,none⟩=some (.int .i64 x.co):=by
 refine ⟨?_,?_,?_,?_,?_,?_,?_⟩<;>simp [World.cell?,h,pfC]
theorem chk0 (l:List RE):decide (chkE l=0)=(l.all mayE&&decide (l.length≤4096)):=by
 unfold chkE;by_cases h:4096<l.length
 ·rw [if_pos h,decide_eq_false (by decide),decide_eq_false (by omega),Bool.and_false]
 ·rw [if_neg h,decide_eq_true (show l.length≤4096 by omega),Bool.and_true]
  cases l.all mayE<;>rfl
theorem Adq {x:PVd}{d:AD}(h:x.kd=1):Bw x d=((decide (chkE d.be=0)&&((d.oy.isSome&&(d.ou.isSome&&d.om.isSome))&&Gj x d))&&decide (x.st=0)):=by
 unfold Bw;rw [if_pos h,chk0];simp only [Bool.and_assoc]
theorem Adp {x:PVd}{d:AD}(h:x.kd=2):Bw x d=((decide (chkE d.be=0)&&((d.oy.isSome&&(d.ou.isSome&&d.om.isSome))&&Gj x d))&&decide (0≤x.st∧x.st≤4096)):=by
 unfold Bw;rw [if_neg (by omega),if_pos h,chk0];simp only [Bool.and_assoc]
theorem Wg {x:PVd}{d:AD}(h1:x.kd≠1)(h2:x.kd≠2)(h3:x.kd≠3):Bw x d=false:=by
 unfold Bw;rw [if_neg h1,if_neg h2,if_neg h3]
def pkB (d:AD):Bool:=d.pk.all fun k=>decide (0≤k∧k<(d.pt.length:Int))
theorem Ado {x:PVd}{d:AD}(h:x.kd=3):Bw x d=(decide (d.be.length=0∧x.st=0)&&((zFV x.y&&(zFV x.u&&zFV x.m))&&(Nv d.sp d.pt d.ot&&(pkB d&&(decide (d.pk.length+1=d.sp.length)&&(d.op.isSome&&decide (0≤x.co))))))):=by
 unfold Bw;rw [if_neg (by omega),if_neg (by omega),if_pos h];rfl
theorem Jx (x:PVd)(d:AD)(w:World)(h:AnyPf w x d)(hb:d.be.length≤1099511627776∧d.sp.length≤1099511627776∧d.pt.length≤1099511627776∧d.pk.length≤1099511627776) :
  Calls Tryz.prog 24 #[.agg (pfC x)] w fun e w'=>e=.returned (.bool (Bw x d))∧Ext w w':=by
 obtain ⟨B1,B2,B3,B4⟩:=hb;obtain ⟨w1,hw1⟩:=nmE (w.alloc (.cells (pfC x) 39));have hE1:=aLe1 hw1;have zP:=aL10 hw1;have h1:∀ W,Ext w1 W→AnyPf W x d:=fun W e=>h.ext (hE1.trans e);have zE:=mK (fun W (e:Ext w1 W)=>e.blk zP);have cE:=mK (fun W (e:Ext w1 W)=>Em (e.blk zP));have KM:=mK (fun PL T pl W (e:Ext w1 W) (zl:W.heap[pl]? = some (.cells #[.bool PL] T (0,0)))=>Afw w.heap.size pl T x d PL W (e.blk zP) zl (h1 W e) B1);have KN2:=mK (fun W (e:Ext w1 W) g (hz:W.heap[g]? = some (.cells #[.bool x.tg.b1,.slice x.tg.a1 x.tg.n1 x.tg.c1,.bool x.tg.b2,.slice x.tg.a2 x.tg.n2 x.tg.c2,.bool x.pw.b1,.slice x.pw.a1 x.pw.n1 x.pw.c1,.bool x.pw.b2,.slice x.pw.a2 x.pw.n2 x.pw.c2] 28 (0,0)))=>Abe (.slice (some ⟨g,0,none⟩) 2 2) [(x.tg,.agg #[.bool x.tg.b1,.slice x.tg.a1 x.tg.n1 x.tg.c1,.bool x.tg.b2,.slice x.tg.a2 x.tg.n2 x.tg.c2]),(x.pw,.agg #[.bool x.pw.b1,.slice x.pw.a1 x.pw.n1 x.pw.c1,.bool x.pw.b2,.slice x.pw.a2 x.pw.n2 x.pw.c2])] W (by simp) (ls2 hz ⟨rfl,Hk h.ft⟩ ⟨rfl,Hk h.fp⟩));have KN3:=mK (fun W (e:Ext w1 W) g (hz:W.heap[g]? = some (.cells #[.bool x.y.b1,.slice x.y.a1 x.y.n1 x.y.c1,.bool x.y.b2,.slice x.y.a2 x.y.n2 x.y.c2,.bool x.u.b1,.slice x.u.a1 x.u.n1 x.u.c1,.bool x.u.b2,.slice x.u.a2 x.u.n2 x.u.c2,.bool x.m.b1,.slice x.m.a1 x.m.n1 x.m.c1,.bool x.m.b2,.slice x.m.a2 x.m.n2 x.m.c2] 28 (0,0)))=>Abe (.slice (some ⟨g,0,none⟩) 3 3) [(x.y,.agg #[.bool x.y.b1,.slice x.y.a1 x.y.n1 x.y.c1,.bool x.y.b2,.slice x.y.a2 x.y.n2 x.y.c2]),(x.u,.agg #[.bool x.u.b1,.slice x.u.a1 x.u.n1 x.u.c1,.bool x.u.b2,.slice x.u.a2 x.u.n2 x.u.c2]),(x.m,.agg #[.bool x.m.b1,.slice x.m.a1 x.m.n1 x.m.c1,.bool x.m.b2,.slice x.m.a2 x.m.n2 x.m.c2])] W (by simp) (ls3 hz ⟨rfl,Hk h.fy⟩ ⟨rfl,Hk h.fu⟩ ⟨rfl,Hk h.fm⟩));have KG:=mK (fun W (e:Ext w1 W) g (hz:W.heap[g]? = some (.cells #[.bool x.pw.b1,.slice x.pw.a1 x.pw.n1 x.pw.c1,.bool x.pw.b2,.slice x.pw.a2 x.pw.n2 x.pw.c2] 28 (0,0)))=>Up (.slice (some ⟨g,0,none⟩) 1 1) [(d.op,.agg #[.bool x.pw.b1,.slice x.pw.a1 x.pw.n1 x.pw.c1,.bool x.pw.b2,.slice x.pw.a2 x.pw.n2 x.pw.c2])] W (by simp) (ls1 hz ((h1 W e).fp)))
 simp only [List.map_cons,List.map_nil,List.all_cons,List.all_nil,Bool.and_true] at KN2 KN3 KG;obtain ⟨o1,f1,g1⟩:=h.be;obtain ⟨o2,f2,g2⟩:=h.sp;obtain ⟨o3,f3,g3⟩:=h.pt;obtain ⟨o4,f4,g4⟩:=h.pk;have KS:=fun W (e:Ext w1 W)=>Aas x.s2 x.s3 x.tg o2 o3 d.ot W (by rw [←List.length_map (f:=(·.1)),f2];exact B2) (by rw [←List.length_map (f:=(·.1)),f3];exact B3) (g2.ext (fun _ _ x=>x.ext (hE1.trans e)) (hE1.trans e)) (g3.ext (fun _ _ x=>x.ext (hE1.trans e)) (hE1.trans e)) (h1 W e).ft;rw [f2,f3] at KS;have H4:=mK (fun W (e:Ext w1 W)=>Ls.ext (w':=W) g4 (fun _ _ x=>x) (hE1.trans e));obtain ⟨a1,c1,e1,hc1⟩:=g1.slice;obtain ⟨a2,c2,e2,hc2⟩:=g2.slice;obtain ⟨a3,c3,e3,hc3⟩:=g3.slice;obtain ⟨a4,c4,e4,hc4⟩:=g4.slice;have l1:o1.length=d.be.length:=by rw [←f1,List.length_map]
 have l2:o2.length=d.sp.length:=by rw [←f2,List.length_map]
 have l3:o3.length=d.pt.length:=by rw [←f3,List.length_map]
 have l4:o4.length=d.pk.length:=by rw [←f4,List.length_map]
 rw [l1] at e1 hc1;rw [l2] at e2 hc2;rw [l3] at e3 hc3;rw [l4] at e4 hc4
 have hpk:pkB d=o4.all fun z=>decide (0≤z.1∧z.1<(d.pt.length:Int)):=by
  unfold pkB;rw [←f4,List.all_map];rfl
 have hmay:=And.intro (@Adq x d) (And.intro (@Adp x d) (And.intro (@Ado x d) (@Wg x d)));unfold Gj at hmay;rw [hpk] at hmay;obtain ⟨n1,m1⟩:=nmE d.be.length;obtain ⟨n2,m2⟩:=nmE d.sp.length;obtain ⟨n3,m3⟩:=nmE d.pt.length;obtain ⟨n4,m4⟩:=nmE d.pk.length;obtain ⟨PM,hPM⟩:=nmE (Bw x d);obtain ⟨MT,hMT⟩:=nmE (Nv d.sp d.pt d.ot);obtain ⟨CB,hCB⟩:=nmE (decide (chkE d.be=0));obtain ⟨GV,hGV⟩:=nmE (d.oy.isSome&&(d.ou.isSome&&d.om.isSome));obtain ⟨GP,hGP⟩:=nmE d.op.isSome;rw [←m1,←m2,←m3,←m4,←hMT,←hCB,←hGV,←hGP,←hPM] at hmay;rw [←hCB,←hGV] at KM;rw [←hMT] at KS;rw [←hGP] at KG;rw [←hPM];rw [←m1] at e1 hc1 B1;rw [←m2] at e2 hc2 B2;rw [←m3] at e3 hc3 B3;rw [←m4] at e4 hc4 B4 l4;clear hPM hMT hCB hGV hGP m1 m2 m3 m4 f1 f2 f3 f4 g1 g2 g3 g4 l1 l2 l3 hpk h h1 zP;obtain ⟨kd,s1,y,u,m,st,s2,s3,tg,s4,pw,co⟩:=x;simp only at e1 e2 e3 e4 hmay KN2 KN3 KG KS;subst e1 e2 e3 e4;obtain ⟨Z2,hZ2⟩:=nmE (zFV tg&&zFV pw);obtain ⟨Z3,hZ3⟩:=nmE (zFV y&&(zFV u&&zFV m));rw [←hZ2,←hZ3] at hmay;rw [←hZ2] at KN2;rw [←hZ3] at KN3;obtain ⟨PL,hPL⟩:=nmE (decide (n2+n3+n4=0∧co=0)&&Z2);rw [←hPL] at hmay;have v1:IntKind.i64.wrap ((n2:Int)+(n3:Int))=(n2:Int)+(n3:Int):=by rw [IntKind.wrap_i64];omega
 have v2:IntKind.i64.wrap ((n2:Int)+(n3:Int)+(n4:Int))=(n2:Int)+(n3:Int)+(n4:Int):=by rw [IntKind.wrap_i64];omega
 obtain ⟨S,hS⟩:=nmE (IntKind.i64.wrap ((n2:Int)+(n3:Int)+(n4:Int)+co));have v3:=hS.symm
 have hS0:S=0→co=0→n2+n3+n4=0:=fun h1 h2=>by
  subst h2;rw [hS,Int.add_zero,v2] at h1;omega
 obtain ⟨q2,hq2⟩:=nmE ((n2:Int)-1);have v4:IntKind.i64.wrap ((n2:Int)-1)=q2:=by rw [hq2,IntKind.wrap_i64];omega
 replace KS:=mK KS;replace hmay:=mK hmay;replace hPL:=mK hPL;replace hS0:=mK hS0;replace hq2:=mK hq2;replace hE1:=mK hE1;simp only [pfC,Ct] at hw1 zE KS ⊢;replace hw1:=mK hw1;clear hS hZ2 hZ3 B1 B2 B3 hc1 hc2 hc3;replace l4:=mK l4;replace hc4:=mK hc4;go_enter Tryz.func24,Tryz.ntmps24;go_upto_region 1 with fail
 rw [←hw1.out];go_cut [3] from 7 to 41 (fun s wx=>∃ pl,s=.pointer (some ⟨pl,0,none⟩)∧wx.heap[pl]? = some (.cells #[.bool PL] 4 (0,0))∧Ext w1 wx)
 case first=>
  obtain ⟨y0,yb,yst,y15,y16,y21,y26⟩:=cE.out w1 (xR _);clear y0 yb yst;by_cases h0:S=0
  ·by_cases hco:co=0
   ·have hP:PL=Z2:=by rw [hPL.out,decide_eq_true ⟨hS0.out h0 hco,hco⟩,Bool.true_and]
    have hz:(n2:Int)+(n3:Int)+(n4:Int)=0:=by have:=hS0.out h0 hco;omega
    subst hP;subst h0;subst hco;clear hPL hS0 v2;have tok:Tok 0:=.mk _
    go_wp2_with (first
     | (replace tok:Tok 1:=nxT 0 tok;refine Ag (by rfl) 28 (.tmp 34) rfl w.heap.size 17 rfl 39 _ #[.bool tg.b1,.slice tg.a1 tg.n1 tg.c1,.bool tg.b2,.slice tg.a2 tg.n2 tg.c2] (0,0) _ (zE.out _ (xR _)) rfl Tryz.underlying28 rfl (by kernel_rfl) ?_)
     | (replace tok:Tok 2:=nxT 1 tok;refine Ag (by rfl) 28 (.tmp 37) rfl w.heap.size 22 rfl 39 _ #[.bool pw.b1,.slice pw.a1 pw.n1 pw.c1,.bool pw.b2,.slice pw.a2 pw.n2 pw.c2] (0,0) _ (zE.out _ (xR _)) rfl Tryz.underlying28 rfl (by kernel_rfl) ?_)
     | (replace tok:Tok 3:=nxT 2 tok;go_at_call 63;refine (KN2.out _ ((xR w1).al _) _ (heap_alloc_new _ _)).mono ?_;rintro e w3 ⟨rfl,hx⟩))
    go_meet;exact ⟨_,rfl,heap_alloc_new _ _,(((xR w1).al _).trans hx).al _⟩
   ·have hP:PL=false:=by rw [hPL.out,decide_eq_false (fun h=>hco h.2),Bool.false_and]
    have hcb:(co==0)=false:=by rw [beq_eq_false_iff_ne];exact hco
    subst hP;subst h0;clear hPL hS0;go_wp2_with fail;go_meet;exact ⟨_,rfl,heap_alloc_new _ _,(xR w1).al _⟩
  ·have hP:PL=false:=by
    rw [hPL.out,decide_eq_false (fun h=>?_),Bool.false_and];apply h0;rw [←v3,h.2,Int.add_zero,v2];omega
   have hcb:(S==0)=false:=by rw [beq_eq_false_iff_ne];exact h0
   subst hP;clear hPL hS0;go_wp2_with fail;go_meet;exact ⟨_,rfl,heap_alloc_new _ _,(xR w1).al _⟩
 case rest=>
  clear hPL hS0 KN2 v3;obtain ⟨pl,rfl,zl,hEc⟩:=hcut;have KM':=KM.out PL _ pl wc hEc zl;obtain ⟨y0,yb,yst,y15,y16,y21,y26⟩:=cE.out wc hEc;replace zl:=mK zl;by_cases k1:kd=1
  ·subst k1
   have hm:=hmay.out.1 rfl;obtain ⟨R1,hR1⟩:=nmE (CB&&(GV&&PL));rw [←hR1] at hm KM';replace hm:=mK hm;replace KM':=mK KM';replace hEc:=mK hEc;clear hR1 KM KN3 KG KS H4 v4 hmay;cases R1
   ·go_wp2_with (go_at_call 64;refine KM'.out.mono ?_;rintro e w5 ⟨rfl,hx⟩)
    have e1:PM=false:=by rw [hm.out];simp
    subst e1;go_ret;exact ⟨by first|rfl|(simp;done)|(simp;omega),hE1.out.trans (hEc.out.trans hx)⟩
   ·by_cases hst:st=0
    ·subst hst
     go_wp2_with (go_at_call 64;refine KM'.out.mono ?_;rintro e w5 ⟨rfl,hx⟩;(have yst5:=hx.cell yst));have e1:PM=true:=by rw [hm.out];simp
     subst e1;go_ret;exact ⟨by first|rfl|(simp;done)|(simp;omega),hE1.out.trans (hEc.out.trans hx)⟩
    ·have hcb:(st==0)=false:=by rw [beq_eq_false_iff_ne];exact hst
     go_wp2_with (go_at_call 64;refine KM'.out.mono ?_;rintro e w5 ⟨rfl,hx⟩;(have yst5:=hx.cell yst));have e1:PM=false:=by rw [hm.out,decide_eq_false hst];rfl
     subst e1;go_ret;exact ⟨by first|rfl|(simp;done)|(simp;omega),hE1.out.trans (hEc.out.trans hx)⟩
  ·by_cases k2:kd=2
   ·subst k2
    clear k1;have hm:=hmay.out.2.1 rfl;obtain ⟨R1,hR1⟩:=nmE (CB&&(GV&&PL));rw [←hR1] at hm KM';replace hm:=mK hm;replace KM':=mK KM';replace hEc:=mK hEc;clear hR1 KM KN3 KG KS H4 v4 hmay;cases R1
    ·go_wp2_with (go_at_call 64;refine KM'.out.mono ?_;rintro e w5 ⟨rfl,hx⟩)
     have e1:PM=false:=by rw [hm.out];simp
     subst e1;go_ret;exact ⟨by first|rfl|(simp;done)|(simp;omega),hE1.out.trans (hEc.out.trans hx)⟩
    ·by_cases hst:0≤st
     ·by_cases hst2:st≤4096
      ·go_wp2_with (go_at_call 64;refine KM'.out.mono ?_;rintro e w5 ⟨rfl,hx⟩;(have yst5:=hx.cell yst))
       have e1:PM=true:=by rw [hm.out];simp only [Bool.true_and,decide_eq_true_eq];omega
       subst e1;go_ret;exact ⟨by first|rfl|(simp;done)|(simp;omega),hE1.out.trans (hEc.out.trans hx)⟩
      ·go_wp2_with (go_at_call 64;refine KM'.out.mono ?_;rintro e w5 ⟨rfl,hx⟩;(have yst5:=hx.cell yst))
       have e1:PM=false:=by rw [hm.out];simp only [Bool.true_and,decide_eq_false_iff_not];omega
       subst e1;go_ret;exact ⟨by first|rfl|(simp;done)|(simp;omega),hE1.out.trans (hEc.out.trans hx)⟩
     ·go_wp2_with (go_at_call 64;refine KM'.out.mono ?_;rintro e w5 ⟨rfl,hx⟩;(have yst5:=hx.cell yst))
      have e1:PM=false:=by rw [hm.out];simp only [Bool.true_and,decide_eq_false_iff_not];omega
      subst e1;go_ret;exact ⟨by first|rfl|(simp;done)|(simp;omega),hE1.out.trans (hEc.out.trans hx)⟩
   ·by_cases k3:kd=3
    ·subst k3
     clear k1 k2 KM';have hm:=hmay.out.2.2.1 rfl;obtain ⟨PK,hPK⟩:=nmE (o4.all fun z=>decide (0≤z.1∧z.1<(n3:Int)));rw [←hPK] at hm;replace hm:=mK hm;replace hPK:=mK hPK;replace hEc:=mK hEc;clear hmay KM;by_cases hb0:0<n1
     ·have hq:(0:Int)<(n1:Int):=by omega
      go_wp2_with fail;have e1:PM=false:=by rw [hm.out,decide_eq_false (by omega)];rfl
      subst e1;go_ret;exact ⟨by first|rfl|(simp;done)|(simp;omega),hE1.out.trans hEc.out⟩
     ·have hn0:n1=0:=by omega
      subst hn0;by_cases hst:st=0
      ·subst hst
       have tok:Tok 0:=.mk _;cases Z3
       ·go_wp2_with (first
        | (replace tok:Tok 1:=nxT 0 tok;refine Ag (by rfl) 28 (.tmp 81) rfl w.heap.size 2 rfl 39 _ #[.bool y.b1,.slice y.a1 y.n1 y.c1,.bool y.b2,.slice y.a2 y.n2 y.c2] (0,0) _ (zE.out _ hEc.out) rfl Tryz.underlying28 rfl (by kernel_rfl) ?_)
        | (replace tok:Tok 2:=nxT 1 tok;refine Ag (by rfl) 28 (.tmp 84) rfl w.heap.size 6 rfl 39 _ #[.bool u.b1,.slice u.a1 u.n1 u.c1,.bool u.b2,.slice u.a2 u.n2 u.c2] (0,0) _ (zE.out _ hEc.out) rfl Tryz.underlying28 rfl (by kernel_rfl) ?_)
        | (replace tok:Tok 3:=nxT 2 tok;refine Ag (by rfl) 28 (.tmp 86) rfl w.heap.size 10 rfl 39 _ #[.bool m.b1,.slice m.a1 m.n1 m.c1,.bool m.b2,.slice m.a2 m.n2 m.c2] (0,0) _ (zE.out _ hEc.out) rfl Tryz.underlying28 rfl (by kernel_rfl) ?_)
        | (replace tok:Tok 4:=nxT 3 tok;go_at_call 63;refine (KN3.out _ (hEc.out.al _) _ (heap_alloc_new _ _)).mono ?_;rintro e w5 ⟨rfl,hx⟩;(have hE5:=mK ((hEc.out.al _).trans hx));clear hx))
        have e1:PM=false:=by rw [hm.out];simp
        subst e1;go_ret;exact ⟨by first|rfl|(simp;done)|(simp;omega),hE1.out.trans hE5.out⟩
       ·cases MT
        ·go_wp2_with (first
         | (replace tok:Tok 1:=nxT 0 tok;refine Ag (by rfl) 28 (.tmp 81) rfl w.heap.size 2 rfl 39 _ #[.bool y.b1,.slice y.a1 y.n1 y.c1,.bool y.b2,.slice y.a2 y.n2 y.c2] (0,0) _ (zE.out _ hEc.out) rfl Tryz.underlying28 rfl (by kernel_rfl) ?_)
         | (replace tok:Tok 2:=nxT 1 tok;refine Ag (by rfl) 28 (.tmp 84) rfl w.heap.size 6 rfl 39 _ #[.bool u.b1,.slice u.a1 u.n1 u.c1,.bool u.b2,.slice u.a2 u.n2 u.c2] (0,0) _ (zE.out _ hEc.out) rfl Tryz.underlying28 rfl (by kernel_rfl) ?_)
         | (replace tok:Tok 3:=nxT 2 tok;refine Ag (by rfl) 28 (.tmp 86) rfl w.heap.size 10 rfl 39 _ #[.bool m.b1,.slice m.a1 m.n1 m.c1,.bool m.b2,.slice m.a2 m.n2 m.c2] (0,0) _ (zE.out _ hEc.out) rfl Tryz.underlying28 rfl (by kernel_rfl) ?_)
         | (replace tok:Tok 4:=nxT 3 tok;go_at_call 63;refine (KN3.out _ (hEc.out.al _) _ (heap_alloc_new _ _)).mono ?_;rintro e w5 ⟨rfl,hx⟩;(have hE5:=mK ((hEc.out.al _).trans hx));clear hx)
         | (replace tok:Tok 5:=nxT 4 tok;refine Ag (by rfl) 34 (.tmp 93) rfl w.heap.size 15 rfl 39 _ #[.slice a2 n2 c2,.slice a3 n3 c3,.bool tg.b1,.slice tg.a1 tg.n1 tg.c1,.bool tg.b2,.slice tg.a2 tg.n2 tg.c2] (0,0) _ (zE.out _ hE5.out) rfl Tryz.underlying34 rfl (by kernel_rfl) ?_)
         | (replace tok:Tok 6:=nxT 5 tok;go_at_call 67;refine (KS.out _ hE5.out).mono ?_;rintro e w6 ⟨E,rfl,hE0,hx⟩;(have hE6:=mK (hE5.out.trans hx));clear hx;(have qE:(E != 0)=true:=by rw [bne_iff_ne];exact of_decide_eq_false hE0);clear hE0))
         have e1:PM=false:=by rw [hm.out];simp
         subst e1;go_ret;exact ⟨by first|rfl|(simp;done)|(simp;omega),hE1.out.trans hE6.out⟩
        ·go_wp2_with (first
         | (replace tok:Tok 1:=nxT 0 tok;refine Ag (by rfl) 28 (.tmp 81) rfl w.heap.size 2 rfl 39 _ #[.bool y.b1,.slice y.a1 y.n1 y.c1,.bool y.b2,.slice y.a2 y.n2 y.c2] (0,0) _ (zE.out _ hEc.out) rfl Tryz.underlying28 rfl (by kernel_rfl) ?_)
         | (replace tok:Tok 2:=nxT 1 tok;refine Ag (by rfl) 28 (.tmp 84) rfl w.heap.size 6 rfl 39 _ #[.bool u.b1,.slice u.a1 u.n1 u.c1,.bool u.b2,.slice u.a2 u.n2 u.c2] (0,0) _ (zE.out _ hEc.out) rfl Tryz.underlying28 rfl (by kernel_rfl) ?_)
         | (replace tok:Tok 3:=nxT 2 tok;refine Ag (by rfl) 28 (.tmp 86) rfl w.heap.size 10 rfl 39 _ #[.bool m.b1,.slice m.a1 m.n1 m.c1,.bool m.b2,.slice m.a2 m.n2 m.c2] (0,0) _ (zE.out _ hEc.out) rfl Tryz.underlying28 rfl (by kernel_rfl) ?_)
         | (replace tok:Tok 4:=nxT 3 tok;go_at_call 63;refine (KN3.out _ (hEc.out.al _) _ (heap_alloc_new _ _)).mono ?_;rintro e w5 ⟨rfl,hx⟩;(have hE5:=mK ((hEc.out.al _).trans hx));clear hx)
         | (replace tok:Tok 5:=nxT 4 tok;refine Ag (by rfl) 34 (.tmp 93) rfl w.heap.size 15 rfl 39 _ #[.slice a2 n2 c2,.slice a3 n3 c3,.bool tg.b1,.slice tg.a1 tg.n1 tg.c1,.bool tg.b2,.slice tg.a2 tg.n2 tg.c2] (0,0) _ (zE.out _ hE5.out) rfl Tryz.underlying34 rfl (by kernel_rfl) ?_)
         | (replace tok:Tok 6:=nxT 5 tok;go_at_call 67;refine (KS.out _ hE5.out).mono ?_;rintro e w6 ⟨E,rfl,hE0,hx⟩;(have hE6:=mK (hE5.out.trans hx));clear hx;(obtain rfl:=of_decide_eq_true hE0);clear hE0;(obtain ⟨-,-,-,-,-,x21,-⟩:=cE.out _ hE6.out)))
         have st:Hid (∃ k:Nat,k≤n4∧Value.int .i64 0=.int .i64 k∧Ext w1 w6∧∀ j,(hj:j<o4.length)→j<k→(0≤o4[j].1∧o4[j].1<(n3:Int))):=⟨0,Nat.zero_le _,rfl,hE6.out,fun j _ hj=>absurd hj (by omega)⟩
         clear x21 y0 yb yst y15 y16 y21 y26 hE5 hE6 hEc zl KN3 KS tok;go_loopw [102] (fun i wr=>∃ k:Nat,k≤n4∧i=.int .i64 k∧Ext w1 wr∧∀ j,(hj:j<o4.length)→j<k→(0≤o4[j].1∧o4[j].1<(n3:Int))) (fun i _=>n4-(intOf i).toNat)
         case atStart=>exact st.out
         case round=>
          clear st;obtain ⟨k,hk,rfl,hE,hj⟩:=hrel;obtain ⟨w7,rfl⟩:=nmE (wr:World);obtain ⟨-,-,-,y15,y16,y21,y26⟩:=cE.out w7 hE;by_cases hlt:k<n4
          ·have hkl:k<o4.length:=by rw [l4.out];exact hlt
           obtain ⟨b,o,cc,x1,-,hrg,hv⟩:=(H4.out w7 hE).get (by decide) hkl;rw [l4.out] at x1;simp only [Value.slice.injEq,true_and] at x1;obtain ⟨rfl,rfl⟩:=x1;obtain ⟨q,hq⟩:=nmE (o4[k].1);unfold NumA at hv;rw [hv,←hq] at hrg
           have hcell:w7.cell? ⟨b,o+k,none⟩=some (.int .i64 q):=by
            have:=hrg 0 (.int .i64 q) rfl;simpa using this
           have hno:¬(0≤q∧q<(n3:Int))→PK=false:=fun h=>by
            rw [hPK.out,Bool.eq_false_iff];intro ha;have:=List.all_eq_true.1 ha _ (List.getElem_mem hkl);rw [←hq] at this;exact h (of_decide_eq_true this)
           have hyes:(0≤q∧q<(n3:Int))→∀ j,(hj:j<o4.length)→j<k+1→(0≤o4[j].1∧o4[j].1<(n3:Int)):=fun h j hjl hjk=>by
            rcases Nat.lt_or_ge j k with h'|h'
            ·exact hj j hjl h'
            ·obtain rfl:j=k:=by omega
             rw [←hq];exact h
           replace hno:=mK hno;replace hyes:=mK hyes;replace hE:=mK hE;clear hj hq hv hrg;by_cases hq0:q<0
           ·go_wp2_with fail
            have e1:PM=false:=by rw [hm.out,hno.out (fun h=>by omega)];simp
            subst e1;go_ret;exact ⟨by first|rfl|(simp;done)|(simp;omega),hE1.out.trans hE.out⟩
           ·by_cases hq1:(n3:Int)≤q
            ·go_wp2_with fail
             have e1:PM=false:=by rw [hm.out,hno.out (fun h=>by omega)];simp
             subst e1;go_ret;exact ⟨by first|rfl|(simp;done)|(simp;omega),hE1.out.trans hE.out⟩
            ·have hqq:0≤q∧q<(n3:Int):=⟨by omega,by omega⟩
             replace hqq:=mK hqq;go_wp2_with fail;go_roundw
             case rel=>exact ⟨k+1,by omega,by go_num,hE.out,hyes.out hqq.out⟩
             case measure=>simp [intOf]<;>omega
          ·obtain rfl:n4=k:=by omega
           have hpk:PK=true:=by
            rw [hPK.out,List.all_eq_true];intro z hz;obtain ⟨j,hjl,rfl⟩:=List.getElem_of_mem hz;exact decide_eq_true (hj j hjl (by rw [←l4.out];exact hjl))
           have hq2':=hq2.out;replace hE:=mK hE;clear hj;by_cases hl:n4+1=n2
           ·have hle:((n4:Int)==q2)=true:=by rw [beq_iff_eq];omega
            replace hl:=mK hl;replace hpk:=mK hpk;clear hq2';have tok:Tok 10:=.mk _;cases GP
            ·go_wp2_with (first
              | (replace tok:Tok 11:=nxT 10 tok;refine Ag (by rfl) 28 (.tmp 129) rfl w.heap.size 22 rfl 39 _ #[.bool pw.b1,.slice pw.a1 pw.n1 pw.c1,.bool pw.b2,.slice pw.a2 pw.n2 pw.c2] (0,0) _ (zE.out _ hE.out) rfl Tryz.underlying28 rfl (by kernel_rfl) ?_)
              | (replace tok:Tok 12:=nxT 11 tok;go_at_call 66;refine (KG.out _ (hE.out.al _) _ (heap_alloc_new _ _)).mono ?_;rintro e w8 ⟨rfl,hx⟩))
             have e1:PM=false:=by rw [hm.out];simp
             subst e1;go_ret;exact ⟨by first|rfl|(simp;done)|(simp;omega),hE1.out.trans ((hE.out.al _).trans hx)⟩
            ·by_cases hco:0≤co
             ·go_wp2_with (first
               | (replace tok:Tok 11:=nxT 10 tok;refine Ag (by rfl) 28 (.tmp 129) rfl w.heap.size 22 rfl 39 _ #[.bool pw.b1,.slice pw.a1 pw.n1 pw.c1,.bool pw.b2,.slice pw.a2 pw.n2 pw.c2] (0,0) _ (zE.out _ hE.out) rfl Tryz.underlying28 rfl (by kernel_rfl) ?_)
               | (replace tok:Tok 12:=nxT 11 tok;go_at_call 66;refine (KG.out _ (hE.out.al _) _ (heap_alloc_new _ _)).mono ?_;rintro e w8 ⟨rfl,hx⟩;(have x26:=((hE.out.al _).trans hx);obtain ⟨-,-,-,-,-,-,x26⟩:=cE.out _ x26)))
              have e1:PM=true:=by rw [hm.out,hpk.out,decide_eq_true hl.out,decide_eq_true (show 0≤co by omega)];rfl
              subst e1;go_ret;exact ⟨by first|rfl|(simp;done)|(simp;omega),hE1.out.trans ((hE.out.al _).trans hx)⟩
             ·go_wp2_with (first
               | (replace tok:Tok 11:=nxT 10 tok;refine Ag (by rfl) 28 (.tmp 129) rfl w.heap.size 22 rfl 39 _ #[.bool pw.b1,.slice pw.a1 pw.n1 pw.c1,.bool pw.b2,.slice pw.a2 pw.n2 pw.c2] (0,0) _ (zE.out _ hE.out) rfl Tryz.underlying28 rfl (by kernel_rfl) ?_)
               | (replace tok:Tok 12:=nxT 11 tok;go_at_call 66;refine (KG.out _ (hE.out.al _) _ (heap_alloc_new _ _)).mono ?_;rintro e w8 ⟨rfl,hx⟩;(have x26:=((hE.out.al _).trans hx);obtain ⟨-,-,-,-,-,-,x26⟩:=cE.out _ x26)))
              have e1:PM=false:=by rw [hm.out,decide_eq_false (show ¬0≤co by omega)];simp
              subst e1;go_ret;exact ⟨by first|rfl|(simp;done)|(simp;omega),hE1.out.trans ((hE.out.al _).trans hx)⟩
           ·have hle:((n4:Int)==q2)=false:=by rw [beq_eq_false_iff_ne];omega
            clear hq2';go_wp2_with fail;have e1:PM=false:=by rw [hm.out,decide_eq_false hl];simp
            subst e1;go_ret;exact ⟨by first|rfl|(simp;done)|(simp;omega),hE1.out.trans hE.out⟩
      ·have hcb:(st==0)=false:=by rw [beq_eq_false_iff_ne];exact hst
       have hcn:(st != 0)=true:=by rw [bne_iff_ne];exact hst
       go_wp2_with fail;have e1:PM=false:=by rw [hm.out,decide_eq_false (fun h=>hst h.2)];rfl
       subst e1;go_ret;exact ⟨by first|rfl|(simp;done)|(simp;omega),hE1.out.trans hEc.out⟩
    ·have hm:=hmay.out.2.2.2 k1 k2 k3
     replace hm:=mK hm;have k1':(kd==1)=false:=by rw [beq_eq_false_iff_ne];exact k1
     have k2':(kd==2)=false:=by rw [beq_eq_false_iff_ne];exact k2
     have k3':(kd==3)=false:=by rw [beq_eq_false_iff_ne];exact k3
     replace hEc:=mK hEc;clear hmay KM KM' KN3 KG KS H4 v4;go_wp2_with fail;have e1:PM=false:=by exact hm.out
     subst e1;go_ret;exact ⟨by first|rfl|(simp;done)|(simp;omega),hE1.out.trans hEc.out⟩
end Go.Proofs.YtlknpnommcohkaaGreatDoor
namespace Go.Proofs.YtlknpnommcohkaaGreatDoor
set_option maxRecDepth 100000
open Go Go.RowKit Go.Proofs Go.Lib
theorem Jo (lo b:Nat)(l:List UInt8)(w:World)(h:IsWrt lo b (byteCells l) w)(h0:l≠[]) :
  Calls Tryz.prog 30 #[.pointer (some ⟨b,0,none⟩)] w fun e w'=>e=.returned (.string ⟨l.toArray⟩)∧Below b w w':=by
 obtain ⟨p,hB,v,hbk,hown,hne⟩:∃ p,Lib.BuilderAt 66 5 b b p (byteCells l) w:=by
  rcases h.is with h|h
  ·exact ⟨_,h⟩
  ·exact ⟨_,h⟩
 have hl0:l.length≠0:=by simpa using h0
 rw [Lib.byteCells_length] at hown
 obtain ⟨g,cap,cur,rfl,hbg,hg,hnc,hcm,hcs,htake⟩:∃ g cap cur,v=.slice (some ⟨g,0,none⟩) l.length cap∧b≤g∧w.heap[g]? = some (.cells cur 5 (0,0))∧l.length≤cap∧cap≤maxLen∧cur.size=cap*1∧cur.toList.take (l.length*1)=byteCells l:=by
  rcases hown.2 with ⟨_,hz⟩|⟨g,cap,cur,hv,r⟩
  ·exact absurd hz hl0
  ·exact ⟨g,cap,cur,hv,r⟩
 have c1:w.drew.cell? ⟨b,1,none⟩=some (.slice (some ⟨g,0,none⟩) l.length cap):=by
  have:w.drew.heap[b]? = some (.cells #[p,.slice (some ⟨g,0,none⟩) l.length cap] 66 (0,0)):=hbk;rw [Lib.cell_of_heap this];rfl
 have hSD:(Builtin.unsafeSliceData_ #[62] 115 #[.slice (some ⟨g,0,none⟩) l.length cap]).run Tryz.prog w.drew=.ok (.pointer (some ⟨g,0,none⟩)) w.drew:=
  Lib.run_unsafeSliceData_row _ _ _ _ _ _ (by omega)
 have hUS:(Builtin.unsafeString_ #[115,3] 9 #[.pointer (some ⟨g,0,none⟩),.int .i64 l.length]).run Tryz.prog w.drew=.ok (.string ⟨l.toArray⟩) (w.drew.freeze ⟨g,0,none⟩ l.length):=by
  refine Lib.run_unsafeString_row w.drew 115 3 9 5 Tryz.underlying115 (by kernel_rfl) g cur.size (by have hg':w.drew.heap[g]? = some (.cells cur 5 (0,0)):=hg;simp [World.shape?,hg']) l h0 (by omega) (by unfold maxLen at hcm;omega) ?_;intro j x hx;have:=hown.cells (g:=g) rfl j (.int .u8 x.toNat) (by simp [Lib.byteCells,hx]);exact this
 go_enter Tryz.func30,Tryz.ntmps30;go_wp2_with fail;go_region
 all_goals (go_wp2_with fail;go_ret;exact ⟨rfl,Lib.below_freeze (Below.drew (Below.refl b w)) (p:=⟨g,0,none⟩) hbg _⟩)
theorem Uk {b lo:Nat}{w0 w w':World}(h:Kw b lo w w')(e:Ext w0 w)(hb:w0.heap.size≤b)(hl:w0.heap.size≤lo):Ext w0 w':=h.c.ext w0 e fun k hk hS=>by
 rcases hS with rfl|hS<;>omega
/-! How long words are, joined. -/
def lenW:WL→Nat
 | []=>0
 | x::r=>x.length+1+lenW r
theorem Cr:∀ a b:WL,lenW (a++b)=lenW a+lenW b
 | [],b=>by simp [lenW]
 | x::r,b=>by
  simp only [List.cons_append,lenW,Cr r b]
  omega
theorem Eb:∀ a:WL,(Ai 32 a).length≤lenW a
 | []=>by simp [Ai]
 | [x]=>by simp [Ai,lenW]
 | x::y::r=>by
  have:=Eb (y::r)
  show (x++32::Ai 32 (y::r)).length≤_
  simp only [List.length_append,List.length_cons,lenW] at this ⊢
  omega
theorem Me:∀ l:List Rat,(∀ x∈l,nf x≤2048)→lenW (l.map An)≤l.length*65537
 | [],_=>by simp [lenW]
 | x::r,h=>by
  have h1:=Bu (h x (List.mem_cons_self ..))
  have h2:=Me r fun y hy=>h y (List.mem_cons_of_mem _ hy)
  simp only [List.map_cons,lenW,List.length_cons]
  omega
theorem Abu {e:EL}(h:okE e):lenW (wdE e)≤131082:=by
 unfold wdE;have h1:(Bm e.kd).length≤7:=Ez e.kd;have h2:(frE e).length≤2:=by unfold frE;simp;omega
 have h3:=Me (frE e) fun x hx=>by
  unfold frE at hx;have hx:=List.mem_of_mem_take hx;simp only [List.mem_cons,List.not_mem_nil,or_false] at hx;rcases hx with rfl|rfl
  ·exact h.1
  ·exact h.2.1
 simp only [lenW];omega
theorem Ps:∀ l:List EL,(∀ e∈l,okE e)→lenW (l.flatMap wdE)≤l.length*131082
 | [],_=>by simp [lenW]
 | e::r,h=>by
  have h1:=Abu (h e (List.mem_cons_self ..))
  have h2:=Ps r fun y hy=>h y (List.mem_cons_of_mem _ hy)
  simp only [List.flatMap_cons,Cr,List.length_cons]
  omega
theorem Je (n:Int)(w:World)(h0:-9223372036854775808≤n)(h1:n≤9223372036854775807)(ht:Tab10 w) :
  Calls Tryz.prog 26 #[.int .i64 n] w fun e w'=>e=.returned (.string ⟨(Lib.itoa n).toArray⟩)∧Ext w w':=by
 refine (Tryz.strconv_Itoa n h0 h1 w ht).mono fun e w' h=>?_;obtain ⟨rfl,k,os,rfl⟩:=h;exact ⟨rfl,⟨rfl,rfl,rfl,by simp [Go.Sort.grow,World.drewN],fun j hj=>by simp [Go.Sort.grow,World.drewN,Array.getElem?_append,hj]⟩⟩
theorem EltR.ext {w w':World}{v:Value}{e:EL}(h:EltR w v e)(x:Ext w w'):EltR w' v e:=by
 obtain ⟨p,q,e0,h1,h2⟩:=h;exact ⟨p,q,e0,h1.ext x,h2.ext x⟩
theorem PrtR.ext {w w':World}{v:Value}{d:PD}(h:PrtR w v d)(x:Ext w w'):PrtR w' v d:=by
 obtain ⟨p,q,e0,h1,h2⟩:=h;exact ⟨p,q,e0,h1.ext x,h2.ext x⟩
theorem Fc:∀ b a:WL,(Ai 32 a).length≤(Ai 32 (a++b)).length
 | [],a=>by simp
 | x::r,a=>by
  have h1:=Fc r (a++[x])
  rw [List.append_assoc,List.singleton_append] at h1
  refine nT ?_ h1
  by_cases h:a=[]
  ·subst h
   simp [Ai]
  ·rw [Fo 32 a x h,List.length_append]
   omega
theorem Nn {b lo:Nat}{w3:World}(ws:WL)(word:List UInt8)(s:Value)(os:List (Rat×Value))(W:World)(hI:IsWrt lo b (byteCells (Ai 32 ws)) W)(hK:Kw b lo w3 W)(hlo:lo≤w3.heap.size)(hw:ws=[]∨Ai 32 ws≠[])
  (hls:∀ W',Kw b lo w3 W'→Kw b lo W W'→Ls 4 FracR W' s os) (hnf:∀ x∈os,nf x.1≤2048) (hlen:(Ai 32 ws).length+word.length+os.length*65537≤70368744177664) (hT:∀ W',Kw b lo w3 W'→Tab10 W') :
  Calls Tryz.prog 25 #[.pointer (some ⟨b,0,none⟩),.string ⟨word.toArray⟩,s] W fun e w'=>e=.returned (.tuple #[])∧IsWrt lo b (byteCells (Ai 32 (ws++word::txtO os))) w'∧Kw b lo w3 w':=
 (No lo b ws word s os W hI hw (nT hlo hK.size) (fun W' h=>hls W' (hK.trans h) h) hnf hlen fun W' h=>hT W' (hK.trans h)).mono fun _ _ h=>⟨h.1,h.2.1,hK.trans h.2.2⟩
theorem Lx {b lo:Nat}{w3:World}(ws:WL)(word:List UInt8)(W:World)(hI:IsWrt lo b (byteCells (Ai 32 ws)) W)(hK:Kw b lo w3 W)(hlo:lo≤w3.heap.size)(hw:Ai 32 ws≠[])
  (hlen:(Ai 32 ws).length+word.length≤70368744177664) (hT:∀ W',Kw b lo w3 W'→Tab10 W') :
  Calls Tryz.prog 25 #[.pointer (some ⟨b,0,none⟩),.string ⟨word.toArray⟩,.slice none 0 0] W fun e w'=>e=.returned (.tuple #[])∧IsWrt lo b (byteCells (Ai 32 (ws++[word]))) w'∧Kw b lo w3 w':=
 Nn ws word (.slice none 0 0) [] W hI hK hlo (.inr hw) (fun W' _ _=>Ii 4 FracR W' none 0) (fun x hx=>by cases hx) (by simpa using hlen) hT
theorem el_k {b lo:Nat}{w3:World}(ws:WL)(p q:FV)(e:EL)(W:World)(hI:IsWrt lo b (byteCells (Ai 32 ws)) W)(hK:Kw b lo w3 W)(hlo:lo≤w3.heap.size)(hw:Ai 32 ws≠[])
  (hp:∀ W',Kw b lo w3 W'→FracR W' (.agg #[.bool p.b1,.slice p.a1 p.n1 p.c1,.bool p.b2,.slice p.a2 p.n2 p.c2]) e.p∧FracR W' (.agg #[.bool q.b1,.slice q.a1 q.n1 q.c1,.bool q.b2,.slice q.a2 q.n2 q.c2]) e.q) (he:okE e) (hlen:(Ai 32 ws).length≤35184372088832) (hT:∀ W',Kw b lo w3 W'→Tab10 W') :
  Calls Tryz.prog 28 #[.pointer (some ⟨b,0,none⟩),.agg #[.int .u8 e.kd,.bool p.b1,.slice p.a1 p.n1 p.c1,.bool p.b2,.slice p.a2 p.n2 p.c2,.bool q.b1,.slice q.a1 q.n1 q.c1,.bool q.b2,.slice q.a2 q.n2 q.c2]] W fun r w'=>r=.returned (.tuple #[])∧IsWrt lo b (byteCells (Ai 32 (ws++wdE e))) w'∧Kw b lo w3 w':=
 (Sw lo b ws p q e W hI hw (nT hlo hK.size) (fun W' h=>hp W' (hK.trans h)) he hlen fun W' h=>hT W' (hK.trans h)).mono fun _ _ h=>⟨h.1,h.2.1,hK.trans h.2.2⟩
def EncQ (f:PF)(w:World)(e:Ending)(w':World):Prop:=
 e=(if (Aw f).length≤65536 then .returned (.tuple #[.string ⟨(Aw f).toArray⟩,.int .i64 0]) else .returned (.tuple #[.string ⟨#[]⟩,.int .i64 4]))∧Ext w w'
theorem Ze (x:PVd)(d:AD)(l:List EL)(y u m:Rat)(w:World)(h:AnyPf w x d)(hb:d.be.length≤1099511627776∧d.sp.length≤1099511627776∧d.pt.length≤1099511627776∧d.pk.length≤1099511627776)(hm:Bw x d=true)
  (hf:PfR w x (.bound l y u m)) (hok:okPF (.bound l y u m)) (hT:∀ W,Ext w W→Tab10 W) :
  Calls Tryz.prog 8 #[.agg (pfC x)] w (EncQ (.bound l y u m) w):=by
 obtain ⟨w1,hw1⟩:=nmE (w.alloc (.cells (pfC x) 39));have hE1:=aLe1 hw1;have zP:=aL10 hw1;have hs1:=aLs1 hw1;have KM:=Jx x d w1 (h.ext hE1) hb;rw [hm] at KM;have zE:=mK (fun W (e:Ext w1 W)=>e.blk zP);have cE:=mK (fun W (e:Ext w1 W)=>Em (e.blk zP));have HT:=mK (fun W (e:Ext w1 W)=>hT W (hE1.trans e));clear h hb hm zP hT;obtain ⟨k1,⟨os,hos,gL⟩,fy,fu,fm,-,-,-,-,-,-,-⟩:=hf;obtain ⟨hol,gy,gu,gm⟩:=hok;subst hos;obtain ⟨a1,c1,e1,hc1⟩:=gL.slice;have HL:=mK (fun W (e:Ext w1 W)=>Ls.ext (w':=W) gL (fun _ _ v=>v.ext (hE1.trans e)) (hE1.trans e));have FY:=mK (fun W (e:Ext w1 W)=>fy.ext (hE1.trans e));have FU:=mK (fun W (e:Ext w1 W)=>fu.ext (hE1.trans e));have FM:=mK (fun W (e:Ext w1 W)=>fm.ext (hE1.trans e));obtain ⟨kd,s1,y',u',m',st,s2,s3,tg,s4,pw,co⟩:=x;simp only at k1 e1 fy fu fm;subst k1 e1;clear fy fu fm;simp only at FY FU FM;simp only [pfC] at hw1 zE KM ⊢;replace hw1:=mK hw1;replace KM:=mK KM;replace hE1:=mK hE1;go_enter Tryz.func8,Tryz.ntmps8;have tok:Tok 0:=.mk _
 go_upto_region 4 with (first
  | (replace tok:Tok 1:=nxT 0 tok;rw [←hw1.out];refine wpList_load_row (by rfl) 39 (.tmp 1) rfl w.heap.size rfl 39 _ (0,0) _ (zE.out _ (xR _)) Tryz.underlying39 rfl (by kernel_rfl) ?_)
  | (replace tok:Tok 2:=nxT 1 tok;go_at_call 24;refine KM.out.mono ?_;rintro e w2 ⟨rfl,hx2⟩))
 obtain ⟨b,hbs⟩:=nmE w2.heap.size;obtain ⟨lo,hlb⟩:=nmE (b+1);obtain ⟨w3,hw3⟩:=nmE (w2.alloc (.cells #[.pointer none,.slice none 0 0] 66));rw [←hw3,←hbs];have hs3:w3.heap.size=lo:=by rw [hw3,hlb,hbs];simp
 have hb1:w1.heap.size≤b:=by rw [hbs];exact hx2.size
 have hX3:Ext w1 w3:=by rw [hw3];exact hx2.al _
 have hX:=mK (fun W (h:Kw b lo w3 W)=>Uk h hX3 hb1 (by omega));have hI:=mK (show IsWrt lo b (byteCells (Ai 32 [])) w3 from Jp (by omega) (by rw [hw3,hbs];exact heap_alloc_new _ _));have hK:=mK (Kw.refl b lo w3);have hlo:lo≤w3.heap.size:=by omega
 have HTK:Hid (∀ W,Kw b lo w3 W→Tab10 W):=fun W h=>HT.out W (hX.out W h);replace hlo:=mK hlo;replace hs3:=mK hs3;replace hlb:=mK hlb;replace hb1:=mK hb1;clear hw3 hbs KM hx2 hX3 hw1 tok;obtain ⟨y0,-⟩:=cE.out w3 (hX.out w3 (Kw.refl _ _ _))
 have KP:=Nn [] wStays (.slice (some ⟨w3.heap.size,0,none⟩) 3 3) [(y,.agg #[.bool y'.b1,.slice y'.a1 y'.n1 y'.c1,.bool y'.b2,.slice y'.a2 y'.n2 y'.c2]),(u,.agg #[.bool u'.b1,.slice u'.a1 u'.n1 u'.c1,.bool u'.b2,.slice u'.a2 u'.n2 u'.c2]),(m,.agg #[.bool m'.b1,.slice m'.a1 m'.n1 m'.c1,.bool m'.b2,.slice m'.a2 m'.n2 m'.c2])] (w3.alloc (.cells #[.bool y'.b1,.slice y'.a1 y'.n1 y'.c1,.bool y'.b2,.slice y'.a2 y'.n2 y'.c2,.bool u'.b1,.slice u'.a1 u'.n1 u'.c1,.bool u'.b2,.slice u'.a2 u'.n2 u'.c2,.bool m'.b1,.slice m'.a1 m'.n1 m'.c1,.bool m'.b2,.slice m'.a2 m'.n2 m'.c2] 28)) (hI.out.ext ((xR _).al _)) (Kw.of _ _ ((xR w3).al _)) hlo.out (.inl rfl)
  (fun W' h3 h=>ls3 (h.blk (heap_alloc_new _ _) (by have:=hs3.out;have:=hlb.out;omega) (by decide)) (FY.out W' (hX.out W' h3)) (FU.out W' (hX.out W' h3)) (FM.out W' (hX.out W' h3)))
  (fun z hz=>by
   simp only [List.mem_cons,List.not_mem_nil,or_false] at hz;rcases hz with rfl|rfl|rfl
   ·exact gy
   ·exact gu
   ·exact gm) (by simp [Ai,wStays]) HTK.out
 have KP:Hid (Calls Tryz.prog 25 #[.pointer (some ⟨b,0,none⟩),.string ⟨#[115,116,97,121,115]⟩,.slice (some ⟨w3.heap.size,0,none⟩) 3 3] (w3.alloc (.cells #[.bool y'.b1,.slice y'.a1 y'.n1 y'.c1,.bool y'.b2,.slice y'.a2 y'.n2 y'.c2,.bool u'.b1,.slice u'.a1 u'.n1 u'.c1,.bool u'.b2,.slice u'.a2 u'.n2 u'.c2,.bool m'.b1,.slice m'.a1 m'.n1 m'.c1,.bool m'.b2,.slice m'.a2 m'.n2 m'.c2] 28)) fun e w'=>e=.returned (.tuple #[])∧IsWrt lo b (byteCells (Ai 32 (wStays::[An y,An u,An m]))) w'∧Kw b lo w3 w'):=KP;have zE3:=mK (zE.out w3 (hX.out w3 (Kw.refl _ _ _)));have tok:Tok 2:=.mk _
 go_upto_region 28 with (first
  | (replace tok:Tok 3:=nxT 2 tok;refine Ag (by rfl) 28 (.tmp 21) rfl w.heap.size 2 rfl 39 _ #[.bool y'.b1,.slice y'.a1 y'.n1 y'.c1,.bool y'.b2,.slice y'.a2 y'.n2 y'.c2] (0,0) _ zE3.out rfl Tryz.underlying28 rfl (by kernel_rfl) ?_)
  | (replace tok:Tok 4:=nxT 3 tok;refine Ag (by rfl) 28 (.tmp 24) rfl w.heap.size 6 rfl 39 _ #[.bool u'.b1,.slice u'.a1 u'.n1 u'.c1,.bool u'.b2,.slice u'.a2 u'.n2 u'.c2] (0,0) _ zE3.out rfl Tryz.underlying28 rfl (by kernel_rfl) ?_)
  | (replace tok:Tok 5:=nxT 4 tok;refine Ag (by rfl) 28 (.tmp 26) rfl w.heap.size 10 rfl 39 _ #[.bool m'.b1,.slice m'.a1 m'.n1 m'.c1,.bool m'.b2,.slice m'.a2 m'.n2 m'.c2] (0,0) _ zE3.out rfl Tryz.underlying28 rfl (by kernel_rfl) ?_)
  | (replace tok:Tok 6:=nxT 5 tok;go_at_call 25;refine KP.out.mono ?_;rintro e w5 ⟨rfl,hI5,hK5⟩;(clear hI;have hI:=mK hI5);(clear hK;have hK:=mK hK5);clear hI5 hK5))
 obtain ⟨ws,hws⟩:=nmE ([wStays,An y,An u,An m]:WL);have hne:Ai 32 ws≠[]:=by rw [hws];simp [Ai,wStays]
 have hwl:lenW ws≤1000000:=by
  have h1:=Bu gy;have h2:=Bu gu;have h3:=Bu gm;rw [hws];simp only [lenW,wStays,List.length_cons,List.length_nil];omega
 have hTX:Aw (.bound (os.map (·.1)) y u m)=Ai 32 (ws++(os.map (·.1)).flatMap wdE):=by rw [hws];rfl
 rw [←hws] at hI;clear hws gy gu gm FY FU FM zE3 KP tok y0;have gI:=mK gL.it;have hol':=hol;obtain ⟨C,hC⟩:∃ C:Nat→List UInt8,C=fun k=>Ai 32 (ws++((os.map (·.1)).take k).flatMap wdE):=⟨_,rfl⟩
 have hC0:Ai 32 ws=C 0:=by rw [hC];simp
 have hCn:C os.length=Aw (.bound (os.map (·.1)) y u m):=by
  rw [hTX,hC];show Ai 32 (ws++((os.map (·.1)).take os.length).flatMap wdE)=_
  rw [List.take_of_length_le (by simp)]
 have hCle:∀ k,(C k).length≤(Aw (.bound (os.map (·.1)) y u m)).length:=fun k=>by
  rw [hTX,hC];show (Ai 32 (ws++((os.map (·.1)).take k).flatMap wdE)).length≤_
  have:=Fc (((os.map (·.1)).drop k).flatMap wdE) (ws++((os.map (·.1)).take k).flatMap wdE);rw [List.append_assoc,←List.flatMap_append,List.take_append_drop] at this;exact this
 have hCb:∀ k,(C k).length≤35184372088832:=fun k=>by
  have h1:=hCle k;rw [hTX] at h1;have h2:=Eb (ws++(os.map (·.1)).flatMap wdE);rw [Cr] at h2;have h3:=Ps (os.map (·.1)) hol'.2;have h4:(os.map (·.1)).length*131082≤4096*131082:=Nat.mul_le_mul_right _ hol'.1;omega
 have hCne:∀ k,Ai 32 (ws++((os.map (·.1)).take k).flatMap wdE)≠[]:=fun k e=>by
  have:=Fc (((os.map (·.1)).take k).flatMap wdE) ws;rw [e] at this;exact hne (List.eq_nil_of_length_eq_zero (Nat.le_zero.1 this))
 obtain ⟨n,hn⟩:=nmE os.length;have hnb:n≤4096:=by rw [hn];simpa using hol'.1
 obtain ⟨-,yb,-⟩:=cE.out w5 (hX.out w5 hK.out);rw [←hn] at yb;rw [hC0] at hI;rw [←hn] at hCn;rw [←hn];replace hn:=mK hn;replace hC:=mK hC;replace hCn:=mK hCn;replace hCle:=mK hCle;replace hCb:=mK hCb;replace hCne:=mK hCne;replace hol':=mK hol';have st:Hid (∃ k:Nat,k≤n∧Value.int .i64 0=.int .i64 k∧IsWrt lo b (byteCells (C k)) w5∧Kw b lo w3 w5):=⟨0,Nat.zero_le _,rfl,hI.out,hK.out⟩
 clear hI hK hC0 hol hc1 hTX hne hwl gL;go_wp2_with fail;clear yb;go_loopw [110] (fun i wr=>∃ k:Nat,k≤n∧i=.int .i64 k∧IsWrt lo b (byteCells (C k)) wr∧Kw b lo w3 wr) (fun i _=>n-(RowKit.intOf i).toNat)
 case atStart=>exact st.out
 case round=>
  clear st;obtain ⟨k,hk,rfl,hI,hK⟩:=hrel;obtain ⟨w6,rfl⟩:=nmE (wr:World);by_cases hlt:k<n
  ·have hkl:k<os.length:=by rw [←hn.out];exact hlt
   obtain ⟨p,q,e0,g1,g2⟩:=gI.out _ (List.getElem_mem hkl);obtain ⟨bb,o,c',x1,-,hrg,-⟩:=(HL.out w6 (hX.out w6 hK)).get (by decide) hkl;rw [←hn.out] at x1;simp only [Value.slice.injEq,true_and] at x1;obtain ⟨rfl,rfl⟩:=x1;rw [e0] at hrg;obtain ⟨E,hE⟩:=nmE (os[k].1);rw [←hE] at hrg g1 g2;replace hrg:w6.rangeAt bb (o+k*9) [.int .u8 E.kd,.bool p.b1,.slice p.a1 p.n1 p.c1,.bool p.b2,.slice p.a2 p.n2 p.c2,.bool q.b1,.slice q.a1 q.n1 q.c1,.bool q.b2,.slice q.a2 q.n2 q.c2]:=hrg;have hoE:okE E:=by rw [hE];exact hol'.out.2 _ (List.mem_map_of_mem (List.getElem_mem hkl))
   obtain ⟨w7,hw7⟩:=nmE (w6.alloc (.cells #[.int .u8 E.kd,.bool p.b1,.slice p.a1 p.n1 p.c1,.bool p.b2,.slice p.a2 p.n2 p.c2,.bool q.b1,.slice q.a1 q.n1 q.c1,.bool q.b2,.slice q.a2 q.n2 q.c2] 72));have hE7:=aLe1 hw7;have zV:=mK (aL10 hw7);have hCk:Ai 32 (ws++((os.map (·.1)).take k).flatMap wdE)=C k:=by rw [hC.out]
   have hCs:Ai 32 (ws++((os.map (·.1)).take k).flatMap wdE++wdE E)=C (k+1):=by
    rw [hC.out];show _=Ai 32 (ws++((os.map (·.1)).take (k+1)).flatMap wdE)
    rw [List.take_succ_eq_append_getElem (by simpa using hkl),List.flatMap_append,←List.append_assoc];simp [hE]
   have KE:=el_k (ws++((os.map (·.1)).take k).flatMap wdE) p q E w7 (by rw [hCk];exact hI.ext hE7) (hK.trans (Kw.of _ _ hE7)) hlo.out (hCne.out k) (fun W' h=>⟨g1.ext (hE1.out.trans (hX.out W' h)),g2.ext (hE1.out.trans (hX.out W' h))⟩) hoE (by rw [hCk];exact hCb.out k) HTK.out;rw [hCs] at KE;obtain ⟨L1,hL1⟩:=nmE ((C (k+1)).length);replace hL1:=mK hL1;replace KE:=mK KE;replace hE7:=mK hE7;replace hw7:=mK hw7;replace hrg:=mK hrg;replace hK:=mK hK;clear hI hE hCk hCs e0 g1 g2 hoE;have tok:Tok 10:=.mk _;by_cases hbig:65536<L1
   ·have hbi:(65536:Int)<(L1:Int):=by omega
    go_wp2_with (first
     | (replace tok:Tok 11:=nxT 10 tok;refine wpList_load_mid (by rfl) 72 (.tmp 112) rfl bb (o+k*9) rfl [.int .u8 E.kd,.bool p.b1,.slice p.a1 p.n1 p.c1,.bool p.b2,.slice p.a2 p.n2 p.c2,.bool q.b1,.slice q.a1 q.n1 q.c1,.bool q.b2,.slice q.a2 q.n2 q.c2] _ hrg.out Tryz.underlying72 rfl (by kernel_rfl) ?_)
     | (replace tok:Tok 12:=nxT 11 tok;rw [←hw7.out];refine wpList_load_row (by rfl) 72 (.tmp 12) rfl (w6.heap.size) rfl 72 #[.int .u8 E.kd,.bool p.b1,.slice p.a1 p.n1 p.c1,.bool p.b2,.slice p.a2 p.n2 p.c2,.bool q.b1,.slice q.a1 q.n1 q.c1,.bool q.b2,.slice q.a2 q.n2 q.c2] (0,0) _ zV.out Tryz.underlying72 rfl (by kernel_rfl) ?_)
     | (replace tok:Tok 13:=nxT 12 tok;go_at_call 28;refine KE.out.mono ?_;rintro e w8 ⟨rfl,hI8,hK8⟩;(have KL:=Gt lo b _ _ hI8);(rw [lenC,←hL1.out] at KL);(replace KL:=mK KL);(replace hI8:=mK hI8);(replace hK8:=mK hK8))
     | (replace tok:Tok 14:=nxT 13 tok;go_at_call 29;refine KL.out.mono ?_;rintro e w9 ⟨rfl,rfl⟩)
     )
    go_ret2;have hq:(if (Aw (.bound (os.map (·.1)) y u m)).length≤65536 then Ending.returned (.tuple #[.string ⟨(Aw (.bound (os.map (·.1)) y u m)).toArray⟩,.int .i64 0]) else .returned (.tuple #[.string ⟨#[]⟩,.int .i64 4]))=.returned (.tuple #[.string ⟨#[]⟩,.int .i64 4]):=if_neg (by have:=hCle.out (k+1);have:=hL1.out;omega);exact ⟨hq.symm,hE1.out.trans (hX.out _ hK8.out)⟩
   ·have hbi:¬(65536:Int)<(L1:Int):=by omega
    go_wp2_with (first
     | (replace tok:Tok 11:=nxT 10 tok;refine wpList_load_mid (by rfl) 72 (.tmp 112) rfl bb (o+k*9) rfl [.int .u8 E.kd,.bool p.b1,.slice p.a1 p.n1 p.c1,.bool p.b2,.slice p.a2 p.n2 p.c2,.bool q.b1,.slice q.a1 q.n1 q.c1,.bool q.b2,.slice q.a2 q.n2 q.c2] _ hrg.out Tryz.underlying72 rfl (by kernel_rfl) ?_)
     | (replace tok:Tok 12:=nxT 11 tok;rw [←hw7.out];refine wpList_load_row (by rfl) 72 (.tmp 12) rfl (w6.heap.size) rfl 72 #[.int .u8 E.kd,.bool p.b1,.slice p.a1 p.n1 p.c1,.bool p.b2,.slice p.a2 p.n2 p.c2,.bool q.b1,.slice q.a1 q.n1 q.c1,.bool q.b2,.slice q.a2 q.n2 q.c2] (0,0) _ zV.out Tryz.underlying72 rfl (by kernel_rfl) ?_)
     | (replace tok:Tok 13:=nxT 12 tok;go_at_call 28;refine KE.out.mono ?_;rintro e w8 ⟨rfl,hI8,hK8⟩;(have KL:=Gt lo b _ _ hI8);(rw [lenC,←hL1.out] at KL);(replace KL:=mK KL);(replace hI8:=mK hI8);(replace hK8:=mK hK8))
     | (replace tok:Tok 14:=nxT 13 tok;go_at_call 29;refine KL.out.mono ?_;rintro e w9 ⟨rfl,rfl⟩)
     )
    go_roundw
    case rel=>exact ⟨k+1,by omega,by go_num,hI8.out,hK8.out⟩
    case measure=>simp [RowKit.intOf]<;>omega
  ·obtain rfl:n=k:=by omega
   obtain ⟨L1,hL1⟩:=nmE ((C n).length);have KL:=Gt lo b _ _ hI;rw [lenC,←hL1] at KL;replace KL:=mK KL
   have hCne':C n≠[]:=by
    have:=hCne.out n;rw [show Ai 32 (ws++((os.map (·.1)).take n).flatMap wdE)=C n by rw [hC.out]] at this;exact this
   have KS:=mK (Jo lo b _ _ hI hCne');rw [hCn.out] at KS;have hL1':L1=(Aw (.bound (os.map (·.1)) y u m)).length:=by rw [hL1,hCn.out]
   replace hL1':=mK hL1';replace hK:=mK hK;have tok:Tok 20:=.mk _;clear hI hL1 hCne';by_cases hbig:65536<L1
   ·have hbi:(65536:Int)<(L1:Int):=by omega
    go_wp2_with (go_at_call 29;refine KL.out.mono ?_;rintro e w8 ⟨rfl,rfl⟩);go_ret2;have hq:(if (Aw (.bound (os.map (·.1)) y u m)).length≤65536 then Ending.returned (.tuple #[.string ⟨(Aw (.bound (os.map (·.1)) y u m)).toArray⟩,.int .i64 0]) else .returned (.tuple #[.string ⟨#[]⟩,.int .i64 4]))=.returned (.tuple #[.string ⟨#[]⟩,.int .i64 4]):=if_neg (by have:=hL1'.out;omega);exact ⟨hq.symm,hE1.out.trans (hX.out _ hK.out)⟩
   ·have hbi:¬(65536:Int)<(L1:Int):=by omega
    go_wp2_with (first
     | (replace tok:Tok 21:=nxT 20 tok;go_at_call 29;refine KL.out.mono ?_;rintro e w8 ⟨rfl,rfl⟩)
     | (replace tok:Tok 22:=nxT 21 tok;go_at_call 30;refine KS.out.mono ?_;rintro e w9 ⟨rfl,hBl⟩))
    go_ret2;have hq:(if (Aw (.bound (os.map (·.1)) y u m)).length≤65536 then Ending.returned (.tuple #[.string ⟨(Aw (.bound (os.map (·.1)) y u m)).toArray⟩,.int .i64 0]) else .returned (.tuple #[.string ⟨#[]⟩,.int .i64 4]))=.returned (.tuple #[.string ⟨(Aw (.bound (os.map (·.1)) y u m)).toArray⟩,.int .i64 0]):=if_pos (by have:=hL1'.out;omega);exact ⟨hq.symm,hE1.out.trans (Below.trans (hX.out _ hK.out) (hBl.mono hb1.out))⟩
/-! Words that are taken, one behind the other. -/
theorem Aes {ws r:WL}{e:EL}(h:tE ws=some (e,r)):r.length<ws.length:=by
 have:=(Is h).1;rw [this,List.length_append];have:=Vn e;omega
theorem Qr:∀ (f g:Nat) (ws:WL),ws.length≤f→ws.length≤g→tEs f ws=tEs g ws
 | f,g,[],_,_=>by cases f<;>cases g<;>rfl
 | 0,_,_::_,h,_=>by simp at h
 | _,0,_::_,_,h=>by simp at h
 | f+1,g+1,w::r,h1,h2=>by
  simp only [tEs]
  cases hE:tE (w::r) with
  | none=>rfl
  | some x=>
   obtain ⟨e,t⟩:=x
   have:=Aes hE
   simp only [List.length_cons] at this h1 h2
   simp only [Option.bind_some]
   rw [Qr f g t (by omega) (by omega)]
theorem Aak {R r:WL}{e:EL}(h:tE R=some (e,r)):tEs R.length R=(tEs r.length r).map fun l=>e::l:=by
 cases R with
 | nil=>cases h
 | cons w t=>
  have hl:=Aes h;simp only [List.length_cons] at hl;show tEs (t.length+1) (w::t)=_
  simp only [tEs,h,Option.bind_some];rw [Qr t.length r.length r (by omega) (nR _)]
theorem Aff {R:WL}(h0:R≠[])(h:tE R=none):tEs R.length R=none:=by
 cases R with
 | nil=>exact absurd rfl h0
 | cons w t=>
  show tEs (t.length+1) (w::t)=_
  simp only [tEs,h,Option.bind_none]
theorem Aer {ws r:WL}{d:PD}(h:tP ws=some (d,r)):r.length<ws.length:=by
 have:=Vp h;rw [this,List.length_append];have:1≤(wdP d).length:=by simp [wdP]
 omega
theorem Ql:∀ (f g:Nat) (ws:WL),ws.length≤f→ws.length≤g→tPs f ws=tPs g ws
 | f,g,[],_,_=>by cases f<;>cases g<;>rfl
 | 0,_,_::_,h,_=>by simp at h
 | _,0,_::_,_,h=>by simp at h
 | f+1,g+1,w::r,h1,h2=>by
  simp only [tPs]
  cases hE:tP (w::r) with
  | none=>rfl
  | some x=>
   obtain ⟨e,t⟩:=x
   have:=Aer hE
   simp only [List.length_cons] at this h1 h2
   simp only [Option.bind_some]
   rw [Ql f g t (by omega) (by omega)]
theorem Aai {R r:WL}{e:PD}(h:tP R=some (e,r)):tPs R.length R=(tPs r.length r).map fun l=>e::l:=by
 cases R with
 | nil=>cases h
 | cons w t=>
  have hl:=Aer h;simp only [List.length_cons] at hl;show tPs (t.length+1) (w::t)=_
  simp only [tPs,h,Option.bind_some];rw [Ql t.length r.length r (by omega) (nR _)]
theorem Afc {R:WL}(h0:R≠[])(h:tP R=none):tPs R.length R=none:=by
 cases R with
 | nil=>exact absurd rfl h0
 | cons w t=>
  show tPs (t.length+1) (w::t)=_
  simp only [tPs,h,Option.bind_none]
/-! The proof that data tell. -/
def embE (e:EL):RE:=⟨e.kd,some e.p,some e.q⟩
def embP (d:PD):RP:=⟨d.nm,d.kd,some d.p,some d.q,d.co⟩
theorem Wu (l:List EL):(l.map embE).map elO=l:=by
 rw [List.map_map];exact (List.map_congr_left fun e _=>rfl).trans (List.map_id l)
theorem Adc (l:List PD):(l.map embP).map ptO=l:=by
 rw [List.map_map];exact (List.map_congr_left fun e _=>rfl).trans (List.map_id l)
def pfD (x:PVd)(d:AD):PF:=
 if x.kd=1 then .bound (d.be.map elO) (d.oy.getD 0) (d.ou.getD 0) (d.om.getD 0)
 else if x.kd=2 then .leaves (d.be.map elO) (d.oy.getD 0) (d.ou.getD 0) (d.om.getD 0) x.st
 else .best ⟨d.sp.map fun o=>o.getD 0,d.pt.map ptO,d.ot.getD 0⟩ d.pk (d.op.getD 0) x.co
theorem Aa3 {w:World}{x:PVd}{d:AD}(h:AnyPf w x d)(hm:Bw x d=true):PfR w x (pfD x d)∧okPF (pfD x d):=by
 obtain ⟨o1,e1,g1⟩:=h.be;obtain ⟨o2,e2,g2⟩:=h.sp;obtain ⟨o3,e3,g3⟩:=h.pt;obtain ⟨o4,e4,g4⟩:=h.pk;have l1:d.be.length=o1.length:=by rw [←e1,List.length_map]
 have l2:d.sp.length=o2.length:=by rw [←e2,List.length_map]
 have l3:d.pt.length=o3.length:=by rw [←e3,List.length_map]
 have l4:d.pk.length=o4.length:=by rw [←e4,List.length_map]
 unfold Bw Gj mayT at hm;split at hm
 ·rename_i hk
  simp only [Bool.and_eq_true,decide_eq_true_eq] at hm;obtain ⟨⟨a1,a2⟩,⟨a3,a4,a5⟩,⟨⟨a6,a7⟩,a8,a9⟩,a10⟩:=hm;obtain ⟨y,y1,y2,y3⟩:=Er h.fy a3;obtain ⟨u,u1,u2,u3⟩:=Er h.fu a4;obtain ⟨m,m1,m2,m3⟩:=Er h.fm a5;rw [←e1] at a1;obtain ⟨b1,b2⟩:=Px g1 a1;have hp:pfD x d=.bound ((o1.map (·.1)).map elO) y u m:=by unfold pfD;rw [if_pos hk,e1,y1,u1,m1];rfl
  rw [hp];exact ⟨⟨hk,b1,y2,u2,m2,a10,Cu g2 (by omega),Cu g3 (by omega),a8,Cu g4 (by omega),a9,a7⟩,⟨by simp;omega,b2⟩,y3,u3,m3⟩
 ·split at hm
  ·rename_i hk0 hk
   simp only [Bool.and_eq_true,decide_eq_true_eq] at hm;obtain ⟨⟨a1,a2⟩,⟨a3,a4,a5⟩,⟨⟨a6,a7⟩,a8,a9⟩,a10,a11⟩:=hm;obtain ⟨y,y1,y2,y3⟩:=Er h.fy a3;obtain ⟨u,u1,u2,u3⟩:=Er h.fu a4;obtain ⟨m,m1,m2,m3⟩:=Er h.fm a5;rw [←e1] at a1;obtain ⟨b1,b2⟩:=Px g1 a1;have hp:pfD x d=.leaves ((o1.map (·.1)).map elO) y u m x.st:=by unfold pfD;rw [if_neg hk0,if_pos hk,e1,y1,u1,m1];rfl
   rw [hp];exact ⟨⟨hk,b1,y2,u2,m2,rfl,Cu g2 (by omega),Cu g3 (by omega),a8,Cu g4 (by omega),a9,a7⟩,⟨by simp;omega,b2⟩,y3,u3,m3,a10,a11⟩
  ·split at hm
   ·rename_i hk1 hk2 hk
    simp only [Bool.and_eq_true,decide_eq_true_eq] at hm;obtain ⟨⟨a1,a2⟩,⟨a3,a4,a5⟩,⟨⟨t1,t2,t3,t4,t5⟩,t6,t7,t8,t9⟩,a6,a7,a8,a9⟩:=hm;obtain ⟨tg,tg1,tg2,tg3⟩:=Er h.ft t5;obtain ⟨pw,pw1,pw2,pw3⟩:=Er h.fp a8;have hp:pfD x d=.best ⟨(o2.map (·.1)).map fun o=>o.getD 0,(o3.map (·.1)).map ptO,tg⟩ d.pk pw x.co:=by unfold pfD;rw [if_neg hk1,if_neg hk2,e2,e3,tg1,pw1];rfl
    rw [hp]
    have hsp:∀ z∈o2,∃ q,z.1=some q∧FracR w z.2 q∧nf q≤2048∧0≤q.num:=fun z hz=>by
     have:=List.all_eq_true.1 t6 z.1 (by rw [←e2];exact List.mem_map_of_mem hz);cases ho:z.1 with
     | none=>rw [ho] at this;cases this
     | some q=>
      rw [ho] at this;have hf:=g2.it z hz;rw [ho] at hf;exact ⟨q,rfl,hf.frac.1,hf.frac.2,by simpa [posO] using this⟩
    have hpt:∀ z∈o3,mayR z.1=true:=fun z hz=>List.all_eq_true.1 t7 z.1 (by rw [←e3];exact List.mem_map_of_mem hz);refine ⟨⟨hk,Cu g1 (by omega),a3,a4,a5,a2,?_,?_,tg2,⟨o4,e4,g4⟩,pw2,rfl⟩,⟨?_,?_,?_,?_,tg3,?_,?_,?_,?_⟩,?_,?_,pw3,a9,h.co⟩
    ·refine Ix g2 _ fun z hz _=>?_
     obtain ⟨q,e,f,-⟩:=hsp z hz;rw [e];exact f
    ·exact Ix g3 _ fun z hz hr=>(Vx hr (hpt z hz)).1
    ·simp;omega
    ·simp;omega
    ·simp;omega
    ·simp;omega
    ·intro q hq
     obtain ⟨o,ho,rfl⟩:=List.mem_map.1 hq;obtain ⟨z,hz,rfl⟩:=List.mem_map.1 ho;obtain ⟨q,e,-,f,g⟩:=hsp z hz;simp only [e,Option.getD_some];exact ⟨f,g⟩
    ·intro q hq
     obtain ⟨o,ho,rfl⟩:=List.mem_map.1 hq;obtain ⟨z,hz,rfl⟩:=List.mem_map.1 ho;exact (Vx (g3.it z hz) (hpt z hz)).2
    ·rw [←e3] at t8
     simpa [List.map_map,Function.comp_def,nmL,ptO] using t8
    ·rw [l2,l3] at t9
     simpa using t9
    ·simp;omega
    ·intro k hk
     have:=List.all_eq_true.1 a6 k hk;simpa [l3] using this
   ·cases hm
/-! What may be, of what was read. -/
theorem Nx {l:List EL}(h:okB l):(l.map embE).all mayE=true:=by
 rw [List.all_map,List.all_eq_true];exact fun e he=>(h.2 e he).2.2
theorem Abl {d:PD}(h:okPD d):mayR (embP d)=true:=by
 obtain ⟨-,-,h3,h4⟩:=h;unfold mayP at h4;simp only [Bool.and_eq_true,decide_eq_true_eq] at h4;show (Eq d.nm.data.toList&&(mayO d.kd (some d.p) (some d.q)&&(decide (0≤d.co)&&decide (d.co≤1073741824))))=true
 rw [h3,h4.2.2,decide_eq_true h4.1,decide_eq_true h4.2.1];rfl
def ZPf (ws:WL)(x:PVd)(d:AD):Prop:=(tPF ws=none∧Bw x d=false)∨(tPF ws=some (pfD x d)∧(okPF (pfD x d)→Bw x d=true))
def adB (l:List EL)(y u m:Rat):AD:=⟨l.map embE,[],[],[],some y,some u,some m,none,none⟩
theorem Nu {x:PVd}{l:List EL}{y u m:Rat}(hk:x.kd=1)(hs:x.st=0)(hc:x.co=0)(ht:zFV x.tg=true)(hp:zFV x.pw=true):pfD x (adB l y u m)=.bound l y u m∧(okPF (.bound l y u m)→Bw x (adB l y u m)=true):=by
 refine ⟨?_,fun ⟨h1,h2⟩=>?_⟩
 ·unfold pfD adB
  rw [if_pos hk];simp only [Wu,Option.getD_some]
 ·unfold Bw adB Gj
  rw [if_pos hk,Nx h1,hs,hc,ht,hp];have:=h1.1;simp only [List.length_map,decide_eq_true this];rfl
theorem Ue {x:PVd}{l:List EL}{y u m:Rat}{n:Int}(hk:x.kd=2)(hs:x.st=n)(hc:x.co=0)(ht:zFV x.tg=true)(hp:zFV x.pw=true):pfD x (adB l y u m)=.leaves l y u m n∧(okPF (.leaves l y u m n)→Bw x (adB l y u m)=true):=by
 refine ⟨?_,fun ⟨h1,h2,h3,h4,h5,h6⟩=>?_⟩
 ·unfold pfD adB
  rw [if_neg (by omega),if_pos hk,hs];simp only [Wu,Option.getD_some]
 ·unfold Bw adB Gj
  rw [if_neg (by omega),if_pos hk,Nx h1,hs,hc,ht,hp];have:=h1.1;simp only [List.length_map,decide_eq_true this,decide_eq_true (show 0≤n∧n≤4096 from ⟨h5,h6⟩)];rfl
def adT (t:TK)(pk:List Int)(pw:Rat):AD:=⟨[],t.sp.map some,t.pt.map embP,pk,none,none,none,some t.tg,some pw⟩
theorem Abk {x:PVd}{t:TK}{pk:List Int}{pw:Rat}{co:Int}(hk:x.kd=3)(hs:x.st=0)(hc:x.co=co)(hy:zFV x.y=true)(hu:zFV x.u=true)(hm:zFV x.m=true):pfD x (adT t pk pw)=.best t pk pw co∧(okPF (.best t pk pw co)→Bw x (adT t pk pw)=true):=by
 obtain ⟨sp,pt,tg⟩:=t;refine ⟨?_,fun ⟨⟨a1,a2,a3,a4,a5,a6,a7,a8,a9⟩,h2,h3,h4,h5,h6⟩=>?_⟩
 ·unfold pfD adT
  rw [if_neg (by omega),if_neg (by omega),hc];have e1:(sp.map some).map (fun o:Option Rat=>o.getD 0)=sp:=by rw [List.map_map];exact (List.map_congr_left fun e _=>rfl).trans (List.map_id sp)
  simp only [Adc,Option.getD_some,e1]
 ·unfold Bw adT mayT
  simp only at a1 a2 a3 a4 a5 a6 a7 a8 a9 h2 h3
  have e1:(sp.map some).all posO=true:=by
   rw [List.all_map,List.all_eq_true];exact fun q hq=>by simpa [posO] using (a6 q hq).2
  have e2:(pt.map embP).all mayR=true:=by
   rw [List.all_map,List.all_eq_true];exact fun q hq=>Abl (a7 q hq)
  have e3:((pt.map embP).map fun r=>r.nm.data.toList).Nodup:=by
   rw [List.map_map];exact a8
  have e4:(pk.all fun k=>decide (0≤k∧k<(pt.length:Int)))=true:=by
   rw [List.all_eq_true];exact fun k hk=>decide_eq_true (h3 k hk)
  rw [if_neg (by omega),if_neg (by omega),if_pos hk,hs,hc,hy,hu,hm,e1,e2,decide_eq_true e3];simp only [List.length_map,List.length_nil,decide_eq_true a1,decide_eq_true a2,decide_eq_true a3,decide_eq_true a4,decide_eq_true a9,e4,decide_eq_true h2,decide_eq_true h5];rfl
end Go.Proofs.YtlknpnommcohkaaGreatDoor
namespace Go.Proofs.YtlknpnommcohkaaGreatDoor
set_option maxRecDepth 100000
open Go Go.RowKit Go.Proofs
theorem Hp (v1 v2 v3 v4:Value)(x y z t:Rat)(w:World)(hX1:nf x≤67108864)(hX2:nf y≤67108864)(hX3:nf z≤67108864)(hX4:nf t≤67108864)(h1:FracR w v1 x)(h2:FracR w v2 y)(h3:FracR w v3 z)(h4:FracR w v4 t) :
  Calls Tryz.prog 261 #[v1,v2,v3,v4] w fun e w'=>∃ v,e=.returned v∧Ext w w'∧FracO w' w.heap.size v (x*y+z*t):=by
 have H1:=h1;have H2:=h2;have H3:=h3;have H4:=h4;obtain ⟨p1,q1,r1,s1,t1,u1,f1,g1,rfl⟩:=h1.shape;obtain ⟨p2,q2,r2,s2,t2,u2,f2,g2,rfl⟩:=h2.shape;obtain ⟨p3,q3,r3,s3,t3,u3,f3,g3,rfl⟩:=h3.shape;obtain ⟨p4,q4,r4,s4,t4,u4,f4,g4,rfl⟩:=h4.shape;have bn1:nl x.num≤67108864:=nT (Nat.le_max_left _ _) hX1;have bd1:nl (x.den:Int)≤67108864:=nT (Nat.le_max_right _ _) hX1;have bn2:nl y.num≤67108864:=nT (Nat.le_max_left _ _) hX2;have bd2:nl (y.den:Int)≤67108864:=nT (Nat.le_max_right _ _) hX2;have bn3:nl z.num≤67108864:=nT (Nat.le_max_left _ _) hX3;have bd3:nl (z.den:Int)≤67108864:=nT (Nat.le_max_right _ _) hX3;have bn4:nl t.num≤67108864:=nT (Nat.le_max_left _ _) hX4;have bd4:nl (t.den:Int)≤67108864:=nT (Nat.le_max_right _ _) hX4;have m1:=Bj x y;have m2:=Bj z t;have tA:=mK (fun w h h'=>Es (.agg #[.bool p1,.slice q1 r1 s1,.bool t1,.slice u1 f1 g1]) (.agg #[.bool p2,.slice q2 r2 s2,.bool t2,.slice u2 f2 g2]) x y w (by omega) (by omega) h h');have tB:=mK (fun w h h'=>Es (.agg #[.bool p3,.slice q3 r3 s3,.bool t3,.slice u3 f3 g3]) (.agg #[.bool p4,.slice q4 r4 s4,.bool t4,.slice u4 f4 g4]) z t w (by omega) (by omega) h h');have pm:=mK (fun v w v' h h'=>Aa2 v v' (x*y) (z*t) w (by omega) (by omega) h h');clear m1 m2;replace H1:=mK H1;replace H2:=mK H2;replace H3:=mK H3;replace H4:=mK H4;clear h1 h2 h3 h4;go_enter Tryz.func261,Tryz.ntmps261;go_wp2_with fail;obtain ⟨wb,hwb⟩:=nmE (((((w.alloc (.cells #[.bool p1,.slice q1 r1 s1,.bool t1,.slice u1 f1 g1] 28)).alloc (.cells #[.bool p2,.slice q2 r2 s2,.bool t2,.slice u2 f2 g2] 28)).alloc (.cells #[.bool p3,.slice q3 r3 s3,.bool t3,.slice u3 f3 g3] 28)).alloc (.cells #[.bool p4,.slice q4 r4 s4,.bool t4,.slice u4 f4 g4] 28)).alloc (.cells #[.bool false,.slice none 0 0,.bool false,.slice none 0 0] 28));have hE:Ext w wb:=by rw [hwb];exact ((((((xR w).al _).al _).al _).al _).al _)
 obtain ⟨c10,c11,c12,c13⟩:=ceX3 (aL50 hwb);obtain ⟨c20,c21,c22,c23⟩:=ceX3 (aL51 hwb);obtain ⟨c30,c31,c32,c33⟩:=ceX3 (aL52 hwb);obtain ⟨c40,c41,c42,c43⟩:=ceX3 (aL53 hwb);have hB:=mK (fun W (e:Ext wb W)=>e.blk (aL54 hwb));have hsz:w.heap.size+5≤wb.heap.size:=by rw [hwb];simp
 replace H1:=mK (H1.out.ext hE);replace H2:=mK (H2.out.ext hE);replace H3:=mK (H3.out.ext hE);replace H4:=mK (H4.out.ext hE);rw [←hwb];replace hE:=mK hE;clear hwb;apply Ak [.val _,.val _,.pred (fun W v=>FracO W (w.heap.size+5) v (x*y)),.val _,.val _,.pred (fun W v=>FracO W (w.heap.size+5) v (z*t)),.pred (fun W v=>FracO W (w.heap.size+5) v (x*y+z*t))] (by kernel_rfl) (stable_vals _ (stable_vals _ (At _ _ (stable_vals _ (stable_vals _ (At _ _ (At _ _ trivial)))))));refine ⟨fun W hW _=>by go_simp;exact ⟨xR _,rfl⟩,?_⟩;refine ⟨fun W hW _=>by go_simp;exact ⟨xR _,rfl⟩,?_⟩;refine ⟨fun W hW hF=>?g2,fun v102=>?_⟩
 case g2=>
  clear hF;go_simp;refine (tA.out W (H1.out.ext hW) (H2.out.ext hW)).mono ?_;rintro e w' ⟨v,rfl,h1,h2⟩;exact ⟨v,rfl,h1,h2.mono (nT hsz hW.size)⟩
 refine ⟨fun W hW _=>by go_simp;exact ⟨xR _,rfl⟩,?_⟩;refine ⟨fun W hW _=>by go_simp;exact ⟨xR _,rfl⟩,?_⟩;refine ⟨fun W hW hF=>?g5,fun v105=>?_⟩
 case g5=>
  clear hF;go_simp;refine (tB.out W (H3.out.ext hW) (H4.out.ext hW)).mono ?_;rintro e w' ⟨v,rfl,h1,h2⟩;exact ⟨v,rfl,h1,h2.mono (nT hsz hW.size)⟩
 refine ⟨fun W hW hF=>?g6,fun v106=>fun W hW hF=>?fin⟩
 case g6=>
  have d2:Hid (FracO W (w.heap.size+5) v102 (x*y)):=hF.2.1 (by kernel_rfl);have d5:Hid (FracO W (w.heap.size+5) v105 (z*t)):=hF.1 (by kernel_rfl);clear hF;go_simp;refine (pm.out _ W _ d2.out.r d5.out.r).mono ?_;rintro e w' ⟨v,rfl,h1,h2⟩;exact ⟨v,rfl,h1,h2.mono (nT hsz hW.size)⟩
 case fin=>
  have d6:FracO W (w.heap.size+5) v106 (x*y+z*t):=hF.1 rfl;obtain ⟨x1,x2,x3,x4,y1,y2,y3,y4,rfl⟩:=d6.r.shape;have R:=d6;have hBW:=hB.out W hW;have FR:=((R.row (g:=w.heap.size+4) (by omega) #[.bool x1,.slice x2 x3 x4,.bool y1,.slice y2 y3 y4]).mono (show w.heap.size≤w.heap.size+5 by omega))
  have FE:=mK ((hE.out.trans hW).row (show w.heap.size≤w.heap.size+4 by omega) #[.bool x1,.slice x2 x3 x4,.bool y1,.slice y2 y3 y4]);rw [show (x*y+z*t)=(x*y+z*t) from rfl] at FR;replace FR:=mK FR;clear hF R c10 c11 c12 c13 c20 c21 c22 c23 c30 c31 c32 c33 c40 c41 c42 c43 hW;go_simp;go_wp2_with (refine wpList_store_row rfl 28 (.tmp 8) (.tmp 15) rfl (w.heap.size+4) #[.bool x1,.slice x2 x3 x4,.bool y1,.slice y2 y3 y4] rfl rfl 28 _ hBW (by kernel_rfl) rfl (by kernel_rfl) ?_);exact bodyPost_ret (results_cell_row rfl _ _ (w.heap.size+4) 28 #[.bool x1,.slice x2 x3 x4,.bool y1,.slice y2 y3 y4] (0,0) _ rfl (setRow_heap _ _ _ _ _ _ hBW) Tryz.underlying28 rfl (by kernel_rfl)) rfl ⟨_,rfl,FE.out,FR.out⟩
/-! Small numbers. -/
def MtR (w:World)(v:Value)(a b c d:Rat):Prop:=∃ f1 f2 f3 f4:FV,v=.agg #[.bool f1.b1,.slice f1.a1 f1.n1 f1.c1,.bool f1.b2,.slice f1.a2 f1.n2 f1.c2,.bool f2.b1,.slice f2.a1 f2.n1 f2.c1,.bool f2.b2,.slice f2.a2 f2.n2 f2.c2,.bool f3.b1,.slice f3.a1 f3.n1 f3.c1,.bool f3.b2,.slice f3.a2 f3.n2 f3.c2,.bool f4.b1,.slice f4.a1 f4.n1 f4.c1,.bool f4.b2,.slice f4.a2 f4.n2 f4.c2]∧FracR w (.agg #[.bool f1.b1,.slice f1.a1 f1.n1 f1.c1,.bool f1.b2,.slice f1.a2 f1.n2 f1.c2]) a∧FracR w (.agg #[.bool f2.b1,.slice f2.a1 f2.n1 f2.c1,.bool f2.b2,.slice f2.a2 f2.n2 f2.c2]) b∧FracR w (.agg #[.bool f3.b1,.slice f3.a1 f3.n1 f3.c1,.bool f3.b2,.slice f3.a2 f3.n2 f3.c2]) c∧FracR w (.agg #[.bool f4.b1,.slice f4.a1 f4.n1 f4.c1,.bool f4.b2,.slice f4.a2 f4.n2 f4.c2]) d
theorem MtR.ext {w w':World}{v:Value}{a b c d:Rat}(h:MtR w v a b c d)(e:Ext w w'):MtR w' v a b c d:=by
 obtain ⟨f1,f2,f3,f4,e0,h1,h2,h3,h4⟩:=h;exact ⟨f1,f2,f3,f4,e0,h1.ext e,h2.ext e,h3.ext e,h4.ext e⟩
def MtO (b0:Nat)(w:World)(v:Value)(a b c d:Rat):Prop:=∃ f1 f2 f3 f4:FV,v=.agg #[.bool f1.b1,.slice f1.a1 f1.n1 f1.c1,.bool f1.b2,.slice f1.a2 f1.n2 f1.c2,.bool f2.b1,.slice f2.a1 f2.n1 f2.c1,.bool f2.b2,.slice f2.a2 f2.n2 f2.c2,.bool f3.b1,.slice f3.a1 f3.n1 f3.c1,.bool f3.b2,.slice f3.a2 f3.n2 f3.c2,.bool f4.b1,.slice f4.a1 f4.n1 f4.c1,.bool f4.b2,.slice f4.a2 f4.n2 f4.c2]∧FracO w b0 (.agg #[.bool f1.b1,.slice f1.a1 f1.n1 f1.c1,.bool f1.b2,.slice f1.a2 f1.n2 f1.c2]) a∧FracO w b0 (.agg #[.bool f2.b1,.slice f2.a1 f2.n1 f2.c1,.bool f2.b2,.slice f2.a2 f2.n2 f2.c2]) b∧FracO w b0 (.agg #[.bool f3.b1,.slice f3.a1 f3.n1 f3.c1,.bool f3.b2,.slice f3.a2 f3.n2 f3.c2]) c∧FracO w b0 (.agg #[.bool f4.b1,.slice f4.a1 f4.n1 f4.c1,.bool f4.b2,.slice f4.a2 f4.n2 f4.c2]) d
theorem MtO.r {b0:Nat}{w:World}{v:Value}{a b c d:Rat}(h:MtO b0 w v a b c d):MtR w v a b c d:=by
 obtain ⟨f1,f2,f3,f4,e0,h1,h2,h3,h4⟩:=h;exact ⟨f1,f2,f3,f4,e0,h1.r,h2.r,h3.r,h4.r⟩
theorem MtO.ext {b0:Nat}{w w':World}{v:Value}{a b c d:Rat}(h:MtO b0 w v a b c d)(e:Ext w w'):MtO b0 w' v a b c d:=by
 obtain ⟨f1,f2,f3,f4,e0,h1,h2,h3,h4⟩:=h;exact ⟨f1,f2,f3,f4,e0,h1.ext e,h2.ext e,h3.ext e,h4.ext e⟩
theorem MtO.mono {b0 b1:Nat}{w:World}{v:Value}{a b c d:Rat}(h:MtO b0 w v a b c d)(e:b1≤b0):MtO b1 w v a b c d:=by
 obtain ⟨f1,f2,f3,f4,e0,h1,h2,h3,h4⟩:=h;exact ⟨f1,f2,f3,f4,e0,h1.mono e,h2.mono e,h3.mono e,h4.mono e⟩
theorem MtO.row {b0 g:Nat}{w:World}{v:Value}{a b c d:Rat}(h:MtO b0 w v a b c d)(hg:g<b0)(cs:Array Value):MtO b0 (w.setRow g cs) v a b c d:=by
 obtain ⟨f1,f2,f3,f4,e0,h1,h2,h3,h4⟩:=h;exact ⟨f1,f2,f3,f4,e0,h1.row hg cs,h2.row hg cs,h3.row hg cs,h4.row hg cs⟩
theorem Bh {w:World}{b:Nat}{v:Value}{q:Rat}(h:FracO w b v q):∃ f:FV,v=.agg #[.bool f.b1,.slice f.a1 f.n1 f.c1,.bool f.b2,.slice f.a2 f.n2 f.c2]:=h.r.fv
abbrev ZMC:Array Value:=#[.bool false,.slice none 0 0,.bool false,.slice none 0 0,.bool false,.slice none 0 0,.bool false,.slice none 0 0,.bool false,.slice none 0 0,.bool false,.slice none 0 0,.bool false,.slice none 0 0,.bool false,.slice none 0 0]
theorem Lt (w:World):Calls Tryz.prog 210 #[] w fun e w'=>∃ v,e=.returned v∧Ext w w'∧MtO w.heap.size w' v 1 0 0 1:=by
 have K1:=mK (fun w=>Aev w);have K0:=mK (fun w=>Rq w);obtain ⟨w1,hw1⟩:=nmE (w.alloc (.cells ZMC 140));have hE1:=mK (aLe1 hw1);have z1:=aL10 hw1;have hs:w.heap.size+1≤w1.heap.size:=by rw [hw1];simp
 have ZE:=mK (fun W (e:Ext w1 W)=>e.blk z1);replace hw1:=mK hw1;clear z1;go_enter Tryz.func210,Tryz.ntmps210;have tok:Tok 0:=.mk _
 go_wp2_with (first
  | (replace tok:Tok 1:=nxT 0 tok;go_at_call 259;rw [←hw1.out];refine (K1.out _).mono ?_;rintro e w2 ⟨v,rfl,hx2,g1⟩;(obtain ⟨f1,rfl⟩:=Bh g1);(replace g1:=mK (g1.mono hs));(replace hx2:=mK hx2))
  | (replace tok:Tok 2:=nxT 1 tok;go_at_call 260;refine (K0.out _).mono ?_;rintro e w3 ⟨v,rfl,hy,g2⟩;(obtain ⟨f2,rfl⟩:=Bh g2);(replace g2:=mK (g2.mono (nT hs hx2.out.size)));(replace g1:=mK (g1.out.ext hy));(replace hx2:=mK (hx2.out.trans hy));clear hy)
  | (replace tok:Tok 3:=nxT 2 tok;go_at_call 260;refine (K0.out _).mono ?_;rintro e w4 ⟨v,rfl,hy,g3⟩;(obtain ⟨f3,rfl⟩:=Bh g3);(replace g3:=mK (g3.mono (nT hs hx2.out.size)));(replace g1:=mK (g1.out.ext hy));(replace g2:=mK (g2.out.ext hy));(replace hx2:=mK (hx2.out.trans hy));clear hy)
  | (replace tok:Tok 4:=nxT 3 tok;go_at_call 259;refine (K1.out _).mono ?_;rintro e w5 ⟨v,rfl,hy,g4⟩;(obtain ⟨f4,rfl⟩:=Bh g4);(replace g4:=mK (g4.mono (nT hs hx2.out.size)));(replace g1:=mK (g1.out.ext hy));(replace g2:=mK (g2.out.ext hy));(replace g3:=mK (g3.out.ext hy));(replace hx2:=mK (hx2.out.trans hy));clear hy)
  | (replace tok:Tok 5:=nxT 4 tok;refine wpList_store_row rfl 140 (.tmp 0) (.tmp 5) rfl w.heap.size #[.bool f1.b1,.slice f1.a1 f1.n1 f1.c1,.bool f1.b2,.slice f1.a2 f1.n2 f1.c2,.bool f2.b1,.slice f2.a1 f2.n1 f2.c1,.bool f2.b2,.slice f2.a2 f2.n2 f2.c2,.bool f3.b1,.slice f3.a1 f3.n1 f3.c1,.bool f3.b2,.slice f3.a2 f3.n2 f3.c2,.bool f4.b1,.slice f4.a1 f4.n1 f4.c1,.bool f4.b2,.slice f4.a2 f4.n2 f4.c2] rfl rfl 140 _ (ZE.out _ hx2.out) (by kernel_rfl) rfl (by kernel_rfl) ?_))
 exact bodyPost_ret (results_cell_row rfl _ _ w.heap.size 140 #[.bool f1.b1,.slice f1.a1 f1.n1 f1.c1,.bool f1.b2,.slice f1.a2 f1.n2 f1.c2,.bool f2.b1,.slice f2.a1 f2.n1 f2.c1,.bool f2.b2,.slice f2.a2 f2.n2 f2.c2,.bool f3.b1,.slice f3.a1 f3.n1 f3.c1,.bool f3.b2,.slice f3.a2 f3.n2 f3.c2,.bool f4.b1,.slice f4.a1 f4.n1 f4.c1,.bool f4.b2,.slice f4.a2 f4.n2 f4.c2] (0,0) _ rfl (setRow_heap _ _ _ _ _ _ (ZE.out _ hx2.out)) Tryz.underlying140 rfl (by kernel_rfl)) rfl ⟨_,rfl,(hE1.out.trans hx2.out).row (nR _) _,((show MtO (w.heap.size+1) w5 _ 1 0 0 1 from ⟨f1,f2,f3,f4,rfl,g1.out,g2.out,g3.out,g4.out⟩).row (by omega) _).mono (by omega)⟩
theorem Xq (v1:Value)(x:Rat)(w:World)(hX:nf x≤67108864)(h:FracR w v1 x):Calls Tryz.prog 265 #[v1] w fun e w'=>∃ v,e=.returned v∧Ext w w'∧FracO w' w.heap.size v (-x):=by
 obtain ⟨f,rfl⟩:=h.fv;have h0:nf (0:Rat)≤268435456:=nT Tx (by decide);have hN:=mK (fun w=>Rq w);obtain ⟨wb,hwb⟩:=nmE ((w.alloc (.cells #[.bool f.b1,.slice f.a1 f.n1 f.c1,.bool f.b2,.slice f.a2 f.n2 f.c2] 28)).alloc (.cells #[.bool false,.slice none 0 0,.bool false,.slice none 0 0] 28));have hE:=aLe2 hwb;have z0:=aL20 hwb;have z1:=aL21 hwb;have hs:w.heap.size+2≤wb.heap.size:=by rw [hwb];simp
 have Z0:=mK (fun W (e:Ext wb W)=>e.blk z0);have Z1:=mK (fun W (e:Ext wb W)=>e.blk z1);have KM:=mK (fun v W (e:Ext wb W) (hv:FracR W v 0)=>Lc v (.agg #[.bool f.b1,.slice f.a1 f.n1 f.c1,.bool f.b2,.slice f.a2 f.n2 f.c2]) 0 x W h0 (by omega) hv (h.ext (hE.trans e)));replace hE:=mK hE;clear z0 z1 h;go_enter Tryz.func265,Tryz.ntmps265;go_wp2_with fail;rw [←hwb];clear hwb;apply Ak [.pred (fun W v=>FracO W (w.heap.size+2) v 0),.val (.agg #[.bool f.b1,.slice f.a1 f.n1 f.c1,.bool f.b2,.slice f.a2 f.n2 f.c2]),.pred (fun W v=>FracO W (w.heap.size+2) v (-x))] (by kernel_rfl) (At _ _ (stable_vals _ (At _ _ trivial)));refine ⟨fun W hW hF=>?g0,fun v100=>?_⟩
 case g0=>
  clear hF;go_simp;refine (hN.out W).mono ?_;rintro e w' ⟨v,rfl,h1,h2⟩;exact ⟨v,rfl,h1,h2.mono (nT hs hW.size)⟩
 refine ⟨?l1,?_⟩
 case l1=>
  intro W hW hF;have hr:=Z0.out W hW;with_reducible refine Ah ?zhw 28 (.tmp 1) ?zho w.heap.size 0 ?zhx 28 _ #[.bool f.b1,.slice f.a1 f.n1 f.c1,.bool f.b2,.slice f.a2 f.n2 f.c2] (0,0) _ hr ?zhs Tryz.underlying28 ?zhd ?zhi ?zh
  case zhw=>kernel_rfl
  case zho=>rfl
  case zhx=>kernel_rfl
  case zhs=>rfl
  case zhd=>rfl
  case zhi=>kernel_rfl
  case zh=>exact ⟨xR _,rfl⟩
 refine ⟨fun W hW hF=>?g2,fun v102=>fun W hW hF=>?fin⟩
 case g2=>
  have d0:Hid (FracO W (w.heap.size+2) v100 0):=hF.1 (by kernel_rfl);clear hF;go_simp;refine (KM.out _ W hW d0.out.r).mono ?_;rintro e w' ⟨v,rfl,h1,h2⟩;rw [show (0:Rat)-x = -x by rw [Rat.sub_eq_add_neg,Rat.zero_add]] at h2;exact ⟨v,rfl,h1,h2.mono (nT hs hW.size)⟩
 case fin=>
  have d2:FracO W (w.heap.size+2) v102 (-x):=hF.1 rfl;obtain ⟨g,rfl⟩:=Bh d2;have hBW:=Z1.out W hW;have FR:=(d2.row (g:=w.heap.size+1) (by omega) #[.bool g.b1,.slice g.a1 g.n1 g.c1,.bool g.b2,.slice g.a2 g.n2 g.c2]).mono (show w.heap.size≤w.heap.size+2 by omega);have FE:=mK ((hE.out.trans hW).row (show w.heap.size≤w.heap.size+1 by omega) #[.bool g.b1,.slice g.a1 g.n1 g.c1,.bool g.b2,.slice g.a2 g.n2 g.c2]);replace FR:=mK FR;clear hF d2 hW;go_simp;go_wp2_with (refine wpList_store_row rfl 28 (.tmp 2) (.tmp 5) rfl (w.heap.size+1) #[.bool g.b1,.slice g.a1 g.n1 g.c1,.bool g.b2,.slice g.a2 g.n2 g.c2] rfl rfl 28 _ hBW (by kernel_rfl) rfl (by kernel_rfl) ?_);exact bodyPost_ret (results_cell_row rfl _ _ (w.heap.size+1) 28 #[.bool g.b1,.slice g.a1 g.n1 g.c1,.bool g.b2,.slice g.a2 g.n2 g.c2] (0,0) _ rfl (setRow_heap _ _ _ _ _ _ hBW) Tryz.underlying28 rfl (by kernel_rfl)) rfl ⟨_,rfl,FE.out,FR.out⟩
theorem Afj {ss:List FSpec}(b0:Nat)(a b c d:Rat)(h:StableAll Ext ss):StableAll Ext (.pred (fun W v=>MtO b0 W v a b c d)::ss):=⟨fun _ _ _ e h=>MtO.ext h e,h⟩
theorem Tj (v1 v2:Value)(a b c d p q r s:Rat)(w:World)(hm:nf a≤67108864∧nf b≤67108864∧nf c≤67108864∧nf d≤67108864)(hn:nf p≤67108864∧nf q≤67108864∧nf r≤67108864∧nf s≤67108864)(h1:MtR w v1 a b c d)(h2:MtR w v2 p q r s) :
  Calls Tryz.prog 211 #[v1,v2] w fun e w'=>∃ v,e=.returned v∧Ext w w'∧MtO w.heap.size w' v (a*p+b*r) (a*q+b*s) (c*p+d*r) (c*q+d*s):=by
 obtain ⟨f1,f2,f3,f4,rfl,k1,k2,k3,k4⟩:=h1;obtain ⟨g1,g2,g3,g4,rfl,k5,k6,k7,k8⟩:=h2;obtain ⟨wb,hwb⟩:=nmE (((w.alloc (.cells #[.bool f1.b1,.slice f1.a1 f1.n1 f1.c1,.bool f1.b2,.slice f1.a2 f1.n2 f1.c2,.bool f2.b1,.slice f2.a1 f2.n1 f2.c1,.bool f2.b2,.slice f2.a2 f2.n2 f2.c2,.bool f3.b1,.slice f3.a1 f3.n1 f3.c1,.bool f3.b2,.slice f3.a2 f3.n2 f3.c2,.bool f4.b1,.slice f4.a1 f4.n1 f4.c1,.bool f4.b2,.slice f4.a2 f4.n2 f4.c2] 140)).alloc (.cells #[.bool g1.b1,.slice g1.a1 g1.n1 g1.c1,.bool g1.b2,.slice g1.a2 g1.n2 g1.c2,.bool g2.b1,.slice g2.a1 g2.n1 g2.c1,.bool g2.b2,.slice g2.a2 g2.n2 g2.c2,.bool g3.b1,.slice g3.a1 g3.n1 g3.c1,.bool g3.b2,.slice g3.a2 g3.n2 g3.c2,.bool g4.b1,.slice g4.a1 g4.n1 g4.c1,.bool g4.b2,.slice g4.a2 g4.n2 g4.c2] 140)).alloc (.cells ZMC 140));have hE:=aLe3 hwb;have z0:=aL30 hwb;have z1:=aL31 hwb;have z2:=aL32 hwb;have hs:w.heap.size+3≤wb.heap.size:=by rw [hwb];simp
 have Z0:=mK (fun W (e:Ext wb W)=>e.blk z0);have Z1:=mK (fun W (e:Ext wb W)=>e.blk z1);have Z2:=mK (fun W (e:Ext wb W)=>e.blk z2);have KA:=mK (fun W (e:Ext wb W)=>Hp (.agg #[.bool f1.b1,.slice f1.a1 f1.n1 f1.c1,.bool f1.b2,.slice f1.a2 f1.n2 f1.c2]) (.agg #[.bool g1.b1,.slice g1.a1 g1.n1 g1.c1,.bool g1.b2,.slice g1.a2 g1.n2 g1.c2]) (.agg #[.bool f2.b1,.slice f2.a1 f2.n1 f2.c1,.bool f2.b2,.slice f2.a2 f2.n2 f2.c2]) (.agg #[.bool g3.b1,.slice g3.a1 g3.n1 g3.c1,.bool g3.b2,.slice g3.a2 g3.n2 g3.c2]) a p b r W hm.1 hn.1 hm.2.1 hn.2.2.1 (k1.ext (hE.trans e)) (k5.ext (hE.trans e)) (k2.ext (hE.trans e)) (k7.ext (hE.trans e)));have KB:=mK (fun W (e:Ext wb W)=>Hp (.agg #[.bool f1.b1,.slice f1.a1 f1.n1 f1.c1,.bool f1.b2,.slice f1.a2 f1.n2 f1.c2]) (.agg #[.bool g2.b1,.slice g2.a1 g2.n1 g2.c1,.bool g2.b2,.slice g2.a2 g2.n2 g2.c2]) (.agg #[.bool f2.b1,.slice f2.a1 f2.n1 f2.c1,.bool f2.b2,.slice f2.a2 f2.n2 f2.c2]) (.agg #[.bool g4.b1,.slice g4.a1 g4.n1 g4.c1,.bool g4.b2,.slice g4.a2 g4.n2 g4.c2]) a q b s W hm.1 hn.2.1 hm.2.1 hn.2.2.2 (k1.ext (hE.trans e)) (k6.ext (hE.trans e)) (k2.ext (hE.trans e)) (k8.ext (hE.trans e)));have KC:=mK (fun W (e:Ext wb W)=>Hp (.agg #[.bool f3.b1,.slice f3.a1 f3.n1 f3.c1,.bool f3.b2,.slice f3.a2 f3.n2 f3.c2]) (.agg #[.bool g1.b1,.slice g1.a1 g1.n1 g1.c1,.bool g1.b2,.slice g1.a2 g1.n2 g1.c2]) (.agg #[.bool f4.b1,.slice f4.a1 f4.n1 f4.c1,.bool f4.b2,.slice f4.a2 f4.n2 f4.c2]) (.agg #[.bool g3.b1,.slice g3.a1 g3.n1 g3.c1,.bool g3.b2,.slice g3.a2 g3.n2 g3.c2]) c p d r W hm.2.2.1 hn.1 hm.2.2.2 hn.2.2.1 (k3.ext (hE.trans e)) (k5.ext (hE.trans e)) (k4.ext (hE.trans e)) (k7.ext (hE.trans e)));have KD:=mK (fun W (e:Ext wb W)=>Hp (.agg #[.bool f3.b1,.slice f3.a1 f3.n1 f3.c1,.bool f3.b2,.slice f3.a2 f3.n2 f3.c2]) (.agg #[.bool g2.b1,.slice g2.a1 g2.n1 g2.c1,.bool g2.b2,.slice g2.a2 g2.n2 g2.c2]) (.agg #[.bool f4.b1,.slice f4.a1 f4.n1 f4.c1,.bool f4.b2,.slice f4.a2 f4.n2 f4.c2]) (.agg #[.bool g4.b1,.slice g4.a1 g4.n1 g4.c1,.bool g4.b2,.slice g4.a2 g4.n2 g4.c2]) c q d s W hm.2.2.1 hn.2.1 hm.2.2.2 hn.2.2.2 (k3.ext (hE.trans e)) (k6.ext (hE.trans e)) (k4.ext (hE.trans e)) (k8.ext (hE.trans e)))
 replace hE:=mK hE;clear z0 z1 z2 k1 k2 k3 k4 k5 k6 k7 k8 hm hn;go_enter Tryz.func211,Tryz.ntmps211;go_wp2_with fail;rw [←hwb];clear hwb;apply Ak [.val (.pointer (some ⟨w.heap.size,0,none⟩)),.val (.agg #[.bool f1.b1,.slice f1.a1 f1.n1 f1.c1,.bool f1.b2,.slice f1.a2 f1.n2 f1.c2]),.val (.pointer (some ⟨w.heap.size+1,0,none⟩)),.val (.agg #[.bool g1.b1,.slice g1.a1 g1.n1 g1.c1,.bool g1.b2,.slice g1.a2 g1.n2 g1.c2]),.val (.pointer (some ⟨w.heap.size,4,none⟩)),.val (.agg #[.bool f2.b1,.slice f2.a1 f2.n1 f2.c1,.bool f2.b2,.slice f2.a2 f2.n2 f2.c2]),.val (.pointer (some ⟨w.heap.size+1,8,none⟩)),.val (.agg #[.bool g3.b1,.slice g3.a1 g3.n1 g3.c1,.bool g3.b2,.slice g3.a2 g3.n2 g3.c2]),.pred (fun W v=>FracO W (w.heap.size+3) v (a*p+b*r)),.val (.pointer (some ⟨w.heap.size,0,none⟩)),.val (.agg #[.bool f1.b1,.slice f1.a1 f1.n1 f1.c1,.bool f1.b2,.slice f1.a2 f1.n2 f1.c2]),.val (.pointer (some ⟨w.heap.size+1,4,none⟩)),.val (.agg #[.bool g2.b1,.slice g2.a1 g2.n1 g2.c1,.bool g2.b2,.slice g2.a2 g2.n2 g2.c2]),.val (.pointer (some ⟨w.heap.size,4,none⟩)),.val (.agg #[.bool f2.b1,.slice f2.a1 f2.n1 f2.c1,.bool f2.b2,.slice f2.a2 f2.n2 f2.c2]),.val (.pointer (some ⟨w.heap.size+1,12,none⟩)),.val (.agg #[.bool g4.b1,.slice g4.a1 g4.n1 g4.c1,.bool g4.b2,.slice g4.a2 g4.n2 g4.c2]),.pred (fun W v=>FracO W (w.heap.size+3) v (a*q+b*s)),.val (.pointer (some ⟨w.heap.size,8,none⟩)),.val (.agg #[.bool f3.b1,.slice f3.a1 f3.n1 f3.c1,.bool f3.b2,.slice f3.a2 f3.n2 f3.c2]),.val (.pointer (some ⟨w.heap.size+1,0,none⟩)),.val (.agg #[.bool g1.b1,.slice g1.a1 g1.n1 g1.c1,.bool g1.b2,.slice g1.a2 g1.n2 g1.c2]),.val (.pointer (some ⟨w.heap.size,12,none⟩)),.val (.agg #[.bool f4.b1,.slice f4.a1 f4.n1 f4.c1,.bool f4.b2,.slice f4.a2 f4.n2 f4.c2]),.val (.pointer (some ⟨w.heap.size+1,8,none⟩)),.val (.agg #[.bool g3.b1,.slice g3.a1 g3.n1 g3.c1,.bool g3.b2,.slice g3.a2 g3.n2 g3.c2]),.pred (fun W v=>FracO W (w.heap.size+3) v (c*p+d*r)),.val (.pointer (some ⟨w.heap.size,8,none⟩)),.val (.agg #[.bool f3.b1,.slice f3.a1 f3.n1 f3.c1,.bool f3.b2,.slice f3.a2 f3.n2 f3.c2]),.val (.pointer (some ⟨w.heap.size+1,4,none⟩)),.val (.agg #[.bool g2.b1,.slice g2.a1 g2.n1 g2.c1,.bool g2.b2,.slice g2.a2 g2.n2 g2.c2]),.val (.pointer (some ⟨w.heap.size,12,none⟩)),.val (.agg #[.bool f4.b1,.slice f4.a1 f4.n1 f4.c1,.bool f4.b2,.slice f4.a2 f4.n2 f4.c2]),.val (.pointer (some ⟨w.heap.size+1,12,none⟩)),.val (.agg #[.bool g4.b1,.slice g4.a1 g4.n1 g4.c1,.bool g4.b2,.slice g4.a2 g4.n2 g4.c2]),.pred (fun W v=>FracO W (w.heap.size+3) v (c*q+d*s)),.pred (fun W v=>MtO (w.heap.size+3) W v (a*p+b*r) (a*q+b*s) (c*p+d*r) (c*q+d*s))] (by kernel_rfl) (stable_vals _ (stable_vals _ (stable_vals _ (stable_vals _ (stable_vals _ (stable_vals _ (stable_vals _ (stable_vals _ (At _ _ (stable_vals _ (stable_vals _ (stable_vals _ (stable_vals _ (stable_vals _ (stable_vals _ (stable_vals _ (stable_vals _ (At _ _ (stable_vals _ (stable_vals _ (stable_vals _ (stable_vals _ (stable_vals _ (stable_vals _ (stable_vals _ (stable_vals _ (At _ _ (stable_vals _ (stable_vals _ (stable_vals _ (stable_vals _ (stable_vals _ (stable_vals _ (stable_vals _ (stable_vals _ (At _ _ (Afj (ss:=[]) _ _ _ _ _ trivial)))))))))))))))))))))))))))))))))))))
 refine ⟨fun W hW _=>by go_simp;first|exact ⟨xR _,rfl⟩|exact xR _,?_⟩;refine ⟨?l1,?_⟩
 case l1=>
  intro W hW hF;have hr:=Z0.out W hW;clear hF;with_reducible refine Ah ?zhw 28 (.tmp 5) ?zho (w.heap.size) 0 ?zhx 140 _ #[.bool f1.b1,.slice f1.a1 f1.n1 f1.c1,.bool f1.b2,.slice f1.a2 f1.n2 f1.c2] (0,0) _ hr ?zhs Tryz.underlying28 ?zhd ?zhi ?zh
  case zhw=>kernel_rfl
  case zho=>rfl
  case zhx=>kernel_rfl
  case zhs=>rfl
  case zhd=>rfl
  case zhi=>kernel_rfl
  case zh=>exact ⟨xR _,rfl⟩
 refine ⟨fun W hW _=>by go_simp;first|exact ⟨xR _,rfl⟩|exact xR _,?_⟩;refine ⟨?l3,?_⟩
 case l3=>
  intro W hW hF;have hr:=Z1.out W hW;clear hF;with_reducible refine Ah ?zhw 28 (.tmp 7) ?zho (w.heap.size+1) 0 ?zhx 140 _ #[.bool g1.b1,.slice g1.a1 g1.n1 g1.c1,.bool g1.b2,.slice g1.a2 g1.n2 g1.c2] (0,0) _ hr ?zhs Tryz.underlying28 ?zhd ?zhi ?zh
  case zhw=>kernel_rfl
  case zho=>rfl
  case zhx=>kernel_rfl
  case zhs=>rfl
  case zhd=>rfl
  case zhi=>kernel_rfl
  case zh=>exact ⟨xR _,rfl⟩
 refine ⟨fun W hW _=>by go_simp;first|exact ⟨xR _,rfl⟩|exact xR _,?_⟩;refine ⟨?l5,?_⟩
 case l5=>
  intro W hW hF;have hr:=Z0.out W hW;clear hF;with_reducible refine Ah ?zhw 28 (.tmp 9) ?zho (w.heap.size) 4 ?zhx 140 _ #[.bool f2.b1,.slice f2.a1 f2.n1 f2.c1,.bool f2.b2,.slice f2.a2 f2.n2 f2.c2] (0,0) _ hr ?zhs Tryz.underlying28 ?zhd ?zhi ?zh
  case zhw=>kernel_rfl
  case zho=>rfl
  case zhx=>kernel_rfl
  case zhs=>rfl
  case zhd=>rfl
  case zhi=>kernel_rfl
  case zh=>exact ⟨xR _,rfl⟩
 refine ⟨fun W hW _=>by go_simp;first|exact ⟨xR _,rfl⟩|exact xR _,?_⟩;refine ⟨?l7,?_⟩
 case l7=>
  intro W hW hF;have hr:=Z1.out W hW;clear hF;with_reducible refine Ah ?zhw 28 (.tmp 11) ?zho (w.heap.size+1) 8 ?zhx 140 _ #[.bool g3.b1,.slice g3.a1 g3.n1 g3.c1,.bool g3.b2,.slice g3.a2 g3.n2 g3.c2] (0,0) _ hr ?zhs Tryz.underlying28 ?zhd ?zhi ?zh
  case zhw=>kernel_rfl
  case zho=>rfl
  case zhx=>kernel_rfl
  case zhs=>rfl
  case zhd=>rfl
  case zhi=>kernel_rfl
  case zh=>exact ⟨xR _,rfl⟩
 refine ⟨fun W hW hF=>?g8,fun v108=>?_⟩
 case g8=>
  clear hF;go_simp;refine (KA.out W hW).mono ?_;rintro e w' ⟨v,rfl,h1,h2⟩;exact ⟨v,rfl,h1,h2.mono (nT hs hW.size)⟩
 refine ⟨fun W hW _=>by go_simp;first|exact ⟨xR _,rfl⟩|exact xR _,?_⟩;refine ⟨?l10,?_⟩
 case l10=>
  intro W hW hF;have hr:=Z0.out W hW;clear hF;with_reducible refine Ah ?zhw 28 (.tmp 14) ?zho (w.heap.size) 0 ?zhx 140 _ #[.bool f1.b1,.slice f1.a1 f1.n1 f1.c1,.bool f1.b2,.slice f1.a2 f1.n2 f1.c2] (0,0) _ hr ?zhs Tryz.underlying28 ?zhd ?zhi ?zh
  case zhw=>kernel_rfl
  case zho=>rfl
  case zhx=>kernel_rfl
  case zhs=>rfl
  case zhd=>rfl
  case zhi=>kernel_rfl
  case zh=>exact ⟨xR _,rfl⟩
 refine ⟨fun W hW _=>by go_simp;first|exact ⟨xR _,rfl⟩|exact xR _,?_⟩;refine ⟨?l12,?_⟩
 case l12=>
  intro W hW hF;have hr:=Z1.out W hW;clear hF;with_reducible refine Ah ?zhw 28 (.tmp 16) ?zho (w.heap.size+1) 4 ?zhx 140 _ #[.bool g2.b1,.slice g2.a1 g2.n1 g2.c1,.bool g2.b2,.slice g2.a2 g2.n2 g2.c2] (0,0) _ hr ?zhs Tryz.underlying28 ?zhd ?zhi ?zh
  case zhw=>kernel_rfl
  case zho=>rfl
  case zhx=>kernel_rfl
  case zhs=>rfl
  case zhd=>rfl
  case zhi=>kernel_rfl
  case zh=>exact ⟨xR _,rfl⟩
 refine ⟨fun W hW _=>by go_simp;first|exact ⟨xR _,rfl⟩|exact xR _,?_⟩;refine ⟨?l14,?_⟩
 case l14=>
  intro W hW hF;have hr:=Z0.out W hW;clear hF;with_reducible refine Ah ?zhw 28 (.tmp 18) ?zho (w.heap.size) 4 ?zhx 140 _ #[.bool f2.b1,.slice f2.a1 f2.n1 f2.c1,.bool f2.b2,.slice f2.a2 f2.n2 f2.c2] (0,0) _ hr ?zhs Tryz.underlying28 ?zhd ?zhi ?zh
  case zhw=>kernel_rfl
  case zho=>rfl
  case zhx=>kernel_rfl
  case zhs=>rfl
  case zhd=>rfl
  case zhi=>kernel_rfl
  case zh=>exact ⟨xR _,rfl⟩
 refine ⟨fun W hW _=>by go_simp;first|exact ⟨xR _,rfl⟩|exact xR _,?_⟩;refine ⟨?l16,?_⟩
 case l16=>
  intro W hW hF;have hr:=Z1.out W hW;clear hF;with_reducible refine Ah ?zhw 28 (.tmp 20) ?zho (w.heap.size+1) 12 ?zhx 140 _ #[.bool g4.b1,.slice g4.a1 g4.n1 g4.c1,.bool g4.b2,.slice g4.a2 g4.n2 g4.c2] (0,0) _ hr ?zhs Tryz.underlying28 ?zhd ?zhi ?zh
  case zhw=>kernel_rfl
  case zho=>rfl
  case zhx=>kernel_rfl
  case zhs=>rfl
  case zhd=>rfl
  case zhi=>kernel_rfl
  case zh=>exact ⟨xR _,rfl⟩
 refine ⟨fun W hW hF=>?g17,fun v117=>?_⟩
 case g17=>
  clear hF;go_simp;refine (KB.out W hW).mono ?_;rintro e w' ⟨v,rfl,h1,h2⟩;exact ⟨v,rfl,h1,h2.mono (nT hs hW.size)⟩
 refine ⟨fun W hW _=>by go_simp;first|exact ⟨xR _,rfl⟩|exact xR _,?_⟩;refine ⟨?l19,?_⟩
 case l19=>
  intro W hW hF;have hr:=Z0.out W hW;clear hF;with_reducible refine Ah ?zhw 28 (.tmp 23) ?zho (w.heap.size) 8 ?zhx 140 _ #[.bool f3.b1,.slice f3.a1 f3.n1 f3.c1,.bool f3.b2,.slice f3.a2 f3.n2 f3.c2] (0,0) _ hr ?zhs Tryz.underlying28 ?zhd ?zhi ?zh
  case zhw=>kernel_rfl
  case zho=>rfl
  case zhx=>kernel_rfl
  case zhs=>rfl
  case zhd=>rfl
  case zhi=>kernel_rfl
  case zh=>exact ⟨xR _,rfl⟩
 refine ⟨fun W hW _=>by go_simp;first|exact ⟨xR _,rfl⟩|exact xR _,?_⟩;refine ⟨?l21,?_⟩
 case l21=>
  intro W hW hF;have hr:=Z1.out W hW;clear hF;with_reducible refine Ah ?zhw 28 (.tmp 25) ?zho (w.heap.size+1) 0 ?zhx 140 _ #[.bool g1.b1,.slice g1.a1 g1.n1 g1.c1,.bool g1.b2,.slice g1.a2 g1.n2 g1.c2] (0,0) _ hr ?zhs Tryz.underlying28 ?zhd ?zhi ?zh
  case zhw=>kernel_rfl
  case zho=>rfl
  case zhx=>kernel_rfl
  case zhs=>rfl
  case zhd=>rfl
  case zhi=>kernel_rfl
  case zh=>exact ⟨xR _,rfl⟩
 refine ⟨fun W hW _=>by go_simp;first|exact ⟨xR _,rfl⟩|exact xR _,?_⟩;refine ⟨?l23,?_⟩
 case l23=>
  intro W hW hF;have hr:=Z0.out W hW;clear hF;with_reducible refine Ah ?zhw 28 (.tmp 27) ?zho (w.heap.size) 12 ?zhx 140 _ #[.bool f4.b1,.slice f4.a1 f4.n1 f4.c1,.bool f4.b2,.slice f4.a2 f4.n2 f4.c2] (0,0) _ hr ?zhs Tryz.underlying28 ?zhd ?zhi ?zh
  case zhw=>kernel_rfl
  case zho=>rfl
  case zhx=>kernel_rfl
  case zhs=>rfl
  case zhd=>rfl
  case zhi=>kernel_rfl
  case zh=>exact ⟨xR _,rfl⟩
 refine ⟨fun W hW _=>by go_simp;first|exact ⟨xR _,rfl⟩|exact xR _,?_⟩;refine ⟨?l25,?_⟩
 case l25=>
  intro W hW hF;have hr:=Z1.out W hW;clear hF;with_reducible refine Ah ?zhw 28 (.tmp 29) ?zho (w.heap.size+1) 8 ?zhx 140 _ #[.bool g3.b1,.slice g3.a1 g3.n1 g3.c1,.bool g3.b2,.slice g3.a2 g3.n2 g3.c2] (0,0) _ hr ?zhs Tryz.underlying28 ?zhd ?zhi ?zh
  case zhw=>kernel_rfl
  case zho=>rfl
  case zhx=>kernel_rfl
  case zhs=>rfl
  case zhd=>rfl
  case zhi=>kernel_rfl
  case zh=>exact ⟨xR _,rfl⟩
 refine ⟨fun W hW hF=>?g26,fun v126=>?_⟩
 case g26=>
  clear hF;go_simp;refine (KC.out W hW).mono ?_;rintro e w' ⟨v,rfl,h1,h2⟩;exact ⟨v,rfl,h1,h2.mono (nT hs hW.size)⟩
 refine ⟨fun W hW _=>by go_simp;first|exact ⟨xR _,rfl⟩|exact xR _,?_⟩;refine ⟨?l28,?_⟩
 case l28=>
  intro W hW hF;have hr:=Z0.out W hW;clear hF;with_reducible refine Ah ?zhw 28 (.tmp 32) ?zho (w.heap.size) 8 ?zhx 140 _ #[.bool f3.b1,.slice f3.a1 f3.n1 f3.c1,.bool f3.b2,.slice f3.a2 f3.n2 f3.c2] (0,0) _ hr ?zhs Tryz.underlying28 ?zhd ?zhi ?zh
  case zhw=>kernel_rfl
  case zho=>rfl
  case zhx=>kernel_rfl
  case zhs=>rfl
  case zhd=>rfl
  case zhi=>kernel_rfl
  case zh=>exact ⟨xR _,rfl⟩
 refine ⟨fun W hW _=>by go_simp;first|exact ⟨xR _,rfl⟩|exact xR _,?_⟩;refine ⟨?l30,?_⟩
 case l30=>
  intro W hW hF;have hr:=Z1.out W hW;clear hF;with_reducible refine Ah ?zhw 28 (.tmp 34) ?zho (w.heap.size+1) 4 ?zhx 140 _ #[.bool g2.b1,.slice g2.a1 g2.n1 g2.c1,.bool g2.b2,.slice g2.a2 g2.n2 g2.c2] (0,0) _ hr ?zhs Tryz.underlying28 ?zhd ?zhi ?zh
  case zhw=>kernel_rfl
  case zho=>rfl
  case zhx=>kernel_rfl
  case zhs=>rfl
  case zhd=>rfl
  case zhi=>kernel_rfl
  case zh=>exact ⟨xR _,rfl⟩
 refine ⟨fun W hW _=>by go_simp;first|exact ⟨xR _,rfl⟩|exact xR _,?_⟩;refine ⟨?l32,?_⟩
 case l32=>
  intro W hW hF;have hr:=Z0.out W hW;clear hF;with_reducible refine Ah ?zhw 28 (.tmp 36) ?zho (w.heap.size) 12 ?zhx 140 _ #[.bool f4.b1,.slice f4.a1 f4.n1 f4.c1,.bool f4.b2,.slice f4.a2 f4.n2 f4.c2] (0,0) _ hr ?zhs Tryz.underlying28 ?zhd ?zhi ?zh
  case zhw=>kernel_rfl
  case zho=>rfl
  case zhx=>kernel_rfl
  case zhs=>rfl
  case zhd=>rfl
  case zhi=>kernel_rfl
  case zh=>exact ⟨xR _,rfl⟩
 refine ⟨fun W hW _=>by go_simp;first|exact ⟨xR _,rfl⟩|exact xR _,?_⟩;refine ⟨?l34,?_⟩
 case l34=>
  intro W hW hF;have hr:=Z1.out W hW;clear hF;with_reducible refine Ah ?zhw 28 (.tmp 38) ?zho (w.heap.size+1) 12 ?zhx 140 _ #[.bool g4.b1,.slice g4.a1 g4.n1 g4.c1,.bool g4.b2,.slice g4.a2 g4.n2 g4.c2] (0,0) _ hr ?zhs Tryz.underlying28 ?zhd ?zhi ?zh
  case zhw=>kernel_rfl
  case zho=>rfl
  case zhx=>kernel_rfl
  case zhs=>rfl
  case zhd=>rfl
  case zhi=>kernel_rfl
  case zh=>exact ⟨xR _,rfl⟩
 refine ⟨fun W hW hF=>?g35,fun v135=>?_⟩
 case g35=>
  clear hF;go_simp;refine (KD.out W hW).mono ?_;rintro e w' ⟨v,rfl,h1,h2⟩;exact ⟨v,rfl,h1,h2.mono (nT hs hW.size)⟩
 refine ⟨fun W hW hF=>?gb,fun vb=>fun W hW hF=>?fin⟩
 case gb=>
  have dD:FracO W (w.heap.size+3) v135 (c*q+d*s):=hF.1 (by kernel_rfl);have dC:FracO W (w.heap.size+3) v126 (c*p+d*r):=hF.2.1 (by kernel_rfl);have dB:FracO W (w.heap.size+3) v117 (a*q+b*s):=hF.2.2.1 (by kernel_rfl);have dA:FracO W (w.heap.size+3) v108 (a*p+b*r):=hF.2.2.2.1 (by kernel_rfl);clear hF;obtain ⟨h1,e1⟩:=Bh dA;obtain ⟨h2,e2⟩:=Bh dB;obtain ⟨h3,e3⟩:=Bh dC;obtain ⟨h4,e4⟩:=Bh dD;subst e1 e2 e3 e4;have hm:=mK (show MtO (w.heap.size+3) W (.agg #[.bool h1.b1,.slice h1.a1 h1.n1 h1.c1,.bool h1.b2,.slice h1.a2 h1.n2 h1.c2,.bool h2.b1,.slice h2.a1 h2.n1 h2.c1,.bool h2.b2,.slice h2.a2 h2.n2 h2.c2,.bool h3.b1,.slice h3.a1 h3.n1 h3.c1,.bool h3.b2,.slice h3.a2 h3.n2 h3.c2,.bool h4.b1,.slice h4.a1 h4.n1 h4.c1,.bool h4.b2,.slice h4.a2 h4.n2 h4.c2]) (a*p+b*r) (a*q+b*s) (c*p+d*r) (c*q+d*s) from ⟨h1,h2,h3,h4,rfl,dA,dB,dC,dD⟩);clear dA dB dC dD;go_simp
  first
   | exact ⟨xR _,hm.out⟩
   | exact ⟨_,rfl,xR _,hm.out⟩
 case fin=>
  have dm:MtO (w.heap.size+3) W vb (a*p+b*r) (a*q+b*s) (c*p+d*r) (c*q+d*s):=hF.1 rfl;obtain ⟨h1,h2,h3,h4,rfl,-⟩:=id dm;have hBW:=Z2.out W hW;have FR:=(dm.row (g:=w.heap.size+2) (by omega) #[.bool h1.b1,.slice h1.a1 h1.n1 h1.c1,.bool h1.b2,.slice h1.a2 h1.n2 h1.c2,.bool h2.b1,.slice h2.a1 h2.n1 h2.c1,.bool h2.b2,.slice h2.a2 h2.n2 h2.c2,.bool h3.b1,.slice h3.a1 h3.n1 h3.c1,.bool h3.b2,.slice h3.a2 h3.n2 h3.c2,.bool h4.b1,.slice h4.a1 h4.n1 h4.c1,.bool h4.b2,.slice h4.a2 h4.n2 h4.c2]).mono (show w.heap.size≤w.heap.size+3 by omega);have FE:=mK ((hE.out.trans hW).row (show w.heap.size≤w.heap.size+2 by omega) #[.bool h1.b1,.slice h1.a1 h1.n1 h1.c1,.bool h1.b2,.slice h1.a2 h1.n2 h1.c2,.bool h2.b1,.slice h2.a1 h2.n1 h2.c1,.bool h2.b2,.slice h2.a2 h2.n2 h2.c2,.bool h3.b1,.slice h3.a1 h3.n1 h3.c1,.bool h3.b2,.slice h3.a2 h3.n2 h3.c2,.bool h4.b1,.slice h4.a1 h4.n1 h4.c1,.bool h4.b2,.slice h4.a2 h4.n2 h4.c2]);replace FR:=mK FR;clear hF dm hW;go_simp;go_wp2_with (refine wpList_store_row rfl 140 (.tmp 4) (.tmp 41) rfl (w.heap.size+2) #[.bool h1.b1,.slice h1.a1 h1.n1 h1.c1,.bool h1.b2,.slice h1.a2 h1.n2 h1.c2,.bool h2.b1,.slice h2.a1 h2.n1 h2.c1,.bool h2.b2,.slice h2.a2 h2.n2 h2.c2,.bool h3.b1,.slice h3.a1 h3.n1 h3.c1,.bool h3.b2,.slice h3.a2 h3.n2 h3.c2,.bool h4.b1,.slice h4.a1 h4.n1 h4.c1,.bool h4.b2,.slice h4.a2 h4.n2 h4.c2] rfl rfl 140 _ hBW (by kernel_rfl) rfl (by kernel_rfl) ?_);exact bodyPost_ret (results_cell_row rfl _ _ (w.heap.size+2) 140 #[.bool h1.b1,.slice h1.a1 h1.n1 h1.c1,.bool h1.b2,.slice h1.a2 h1.n2 h1.c2,.bool h2.b1,.slice h2.a1 h2.n1 h2.c1,.bool h2.b2,.slice h2.a2 h2.n2 h2.c2,.bool h3.b1,.slice h3.a1 h3.n1 h3.c1,.bool h3.b2,.slice h3.a2 h3.n2 h3.c2,.bool h4.b1,.slice h4.a1 h4.n1 h4.c1,.bool h4.b2,.slice h4.a2 h4.n2 h4.c2] (0,0) _ rfl (setRow_heap _ _ _ _ _ _ hBW) Tryz.underlying140 rfl (by kernel_rfl)) rfl ⟨_,rfl,FE.out,FR.out⟩
end Go.Proofs.YtlknpnommcohkaaGreatDoor
