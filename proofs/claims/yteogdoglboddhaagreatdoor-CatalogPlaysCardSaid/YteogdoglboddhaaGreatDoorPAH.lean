/-
  polestarref01: Sign, Check, Of, Bits, Cmp, Below, Turned. polestarref01: Cmp, Below, Turned. polestarref01: Plus, Minus, Times, Divide. polestarref01: Divide. polestarref01: Double. polestarref01: Common. polestarref01: Common, of two numbers that are not nought. polestarref02: common, turned.
-/
import Derived.Test.YteogdoglboddhaaGreatDoorPAG
import Derived.Test.YteogdoglboddhaaGreatDoorPAD
import Derived.Test.YteogdoglboddhaaGreatDoorPAE
import Derived.Test.YteogdoglboddhaaGreatDoorPAC
import Derived.Deep.LoopGhost
set_option maxHeartbeats 6400000
namespace Go.Proofs.YteogdoglboddhaaGreatDoor
set_option maxRecDepth 100000
open Go Go.RowKit Go.Proofs
theorem Fw (v:Value)(X:Int)(w:World)(h:IntR w v X)(hX:nl X≤1073741824) :
  Calls Tryz.prog 171 #[v] w fun e w'=>e=.returned (.int .i64 (X.sign))∧Ext w w':=by
 obtain ⟨s,rfl,a,c,rfl,_,r⟩:=h;clear r;by_cases h0:X=0
 ·subst h0
  have hl:(lim (Int.natAbs 0)).length=0:=by simp [Al]
  rw [hl];go_enter Tryz.func171,Tryz.ntmps171;go_wp2_with fail;go_ret;exact ⟨rfl,(xR _).al _⟩
 ·have hl:(((lim X.natAbs).length:Int)==0)=false:=by
   have:X.natAbs≠0:=by omega
   rw [Az this];simp;omega
  replace h0:=mK h0;by_cases hn:X<0
  ·have hs:X.sign = -1:=Int.sign_eq_neg_one_of_neg hn
   have hd:decide (X<0)=true:=by simpa using hn
   rw [hs,hd];replace hn:=mK hn;clear hs hd;go_enter Tryz.func171,Tryz.ntmps171;go_wp2_with fail;go_ret;exact ⟨rfl,(xR _).al _⟩
  ·have hs:X.sign=1:=Int.sign_eq_one_of_pos (by have:=h0.out;omega)
   have hd:decide (X<0)=false:=by simpa using hn
   rw [hs,hd];replace hn:=mK hn;clear hs hd;go_enter Tryz.func171,Tryz.ntmps171;go_wp2_with fail;go_ret;exact ⟨rfl,(xR _).al _⟩
theorem Vy (v:Value)(b:Bool)(l:List Nat)(w:World)(hl:l.length≤4294967296)(h:AnyR w v b l) :
  Calls Tryz.prog 170 #[v] w fun e w'=>e=.returned (.int .i64 (if Cg b l then 0 else 1))∧Ext w w':=by
 obtain ⟨a,c,rfl,okl,_,r⟩:=h;by_cases h1:2048<l.length
 ·have hg:Cg b l=false:=by unfold Cg;simp;omega
  rw [hg];clear hg r;go_enter Tryz.func170,Tryz.ntmps170;go_wp2_with fail;go_ret;exact ⟨rfl,(xR _).al _⟩
 ·by_cases h2:l=[]
  ·subst h2
   clear r h1 hl;cases b
   ·have hg:Cg false []=true:=rfl
    rw [hg];clear hg;go_enter Tryz.func170,Tryz.ntmps170;go_wp2_with fail;go_ret;exact ⟨rfl,(xR _).al _⟩
   ·have hg:Cg true []=false:=rfl
    rw [hg];clear hg;go_enter Tryz.func170,Tryz.ntmps170;go_wp2_with fail;go_ret;exact ⟨rfl,(xR _).al _⟩
  ·obtain ⟨g,off,ha,hc⟩:=r
   have h0:0<l.length:=by cases l with|nil=>exact absurd rfl h2|cons x y=>simp
   have hcell:w.cell? ⟨g,off+(l.length-1),none⟩=some (.int .u32 (l.getD (l.length-1) 0:Nat)):=by
    rw [hc _ (by rw [Ah];omega),Bs _ _ (by omega)]
   have hgl:=Ag okl (l.length-1);have hi:((l.length:Int)-1)=((l.length-1:Nat):Int):=by omega
   obtain rfl:=ha (by intro e;have:=congrArg List.length e;rw [Ah] at this;simp at this;exact h2 this)
   have hlt:(w.heap.size=g)=False:=by
    have:=Cl hcell;simp at this;exact eq_false (by omega)
   have hgd:Cg b l=decide (l.getD (l.length-1) 0≠0):=by
    have h3:l.getLastD 0=l.getD (l.length-1) 0:=by
     rw [List.getLastD_eq_getLast?,List.getLast?_eq_getElem?,List.getD_eq_getElem?_getD]
    unfold Cg;rw [h3];simp [h2];omega
   rw [hgd];clear hgd hc;generalize l.getD (l.length-1) 0=x at *;have hcell2:(w.alloc (.cells #[.bool b,.slice (some ⟨g,off,none⟩) l.length c] 52)).cell? ⟨g,off+(l.length-1),none⟩=some (.int .u32 (x:Nat)):=((xR w).al _).cell hcell;clear hcell ha hlt;by_cases hx:x=0
   ·subst hx
    go_enter Tryz.func170,Tryz.ntmps170;go_wp2_with fail;go_ret;exact ⟨rfl,(xR _).al _⟩
   ·have hx2:((x:Int)==0)=false:=by rw [beq_eq_false_iff_ne];omega
    rw [if_pos (show decide (x≠0)=true by simpa using hx)];go_enter Tryz.func170,Tryz.ntmps170;go_wp2_with fail;go_ret;exact ⟨rfl,(xR _).al _⟩
def RawR (w:World)(v:Value)(n:Nat):Prop:=∃ r,MagR w v r∧OkL r∧r.length≤4294967296∧val r=n
theorem RawR.ext {w w':World}{v:Value}{n:Nat}(h:RawR w v n)(e:Ext w w'):RawR w' v n:=by
 obtain ⟨r,h1,h2⟩:=h;exact ⟨r,h1.ext e,h2⟩
theorem RawO.rr {w:World}{base:Nat}{v:Value}{n:Nat}(h:RawO w base v n):RawR w v n:=by
 obtain ⟨r,h1,h2⟩:=h;exact ⟨r,h1.r,h2⟩
theorem RawR.lims {w:World}{v:Value}{n:Nat}(h:MagR w v (lim n))(hl:(lim n).length≤4294967296):RawR w v n:=⟨_,h,Ap _,hl,Aj _⟩
theorem Rs (neg:Bool)(s:Value)(n:Nat)(w:World)(h:RawR w s n) :
  Calls Tryz.prog 217 #[.bool neg,s] w fun e w'=>∃ v,e=.returned v∧IntR w' v (sg neg n)∧Ext w w'∧∀ lo,NewV lo s→NewI lo v:=by
 obtain ⟨r,h1,h2,h3,rfl⟩:=h;exact Sf neg s r w h2 h3 h1
theorem Bw (neg:Bool)(s:Value)(n:Nat)(w:World)(h:RawR w s n) :
  Calls Tryz.prog 217 #[.bool neg,s] w fun e w'=>∃ v,e=.returned v∧IntR w' v (sg neg n)∧Ext w w':=by
 obtain ⟨r,h1,h2,h3,rfl⟩:=h;exact Acd neg s r w h2 h3 h1
theorem Bj {ss:List FSpec}(x:Int)(h:StableAll Ext ss):StableAll Ext (.pred (fun W v=>IntR W v x)::ss):=⟨fun _ _ _ e h=>IntR.ext h e,h⟩
theorem Ku {ss:List FSpec}(n:Nat)(h:StableAll Ext ss):StableAll Ext (.pred (fun W v=>RawR W v n)::ss):=⟨fun _ _ _ e h=>RawR.ext h e,h⟩
theorem No (n:Int)(w:World)(h0:-9223372036854775808≤n)(h1:n<9223372036854775808) :
  Calls Tryz.prog 174 #[.int .i64 n] w fun e w'=>∃ v,e=.returned v∧IntR w' v n∧Ext w w':=by
 by_cases hn:n<0
 ·have hz:sg true n.natAbs=n:=by simp [sg];omega
  replace hz:=mK hz;go_enter Tryz.func174,Tryz.ntmps174;go_wp2_with fail;have e:IntKind.u64.wrap (-IntKind.u64.wrap n)=((n.natAbs:Nat):Int):=by rw [IntKind.wrap_u64,IntKind.wrap_u64];omega
  refine (Bw true _ n.natAbs _ (Oj _ _ (by omega) _ _ (by rw [e,Int.tmod_eq_emod_of_nonneg (by omega)];omega) (by rw [e,Int.tdiv_eq_ediv_of_nonneg (by omega),IntKind.wrap_u64];omega) (w.heap.size+1) (by simp)).rr).mono ?_;rintro e w2 ⟨v,rfl,h7,he2⟩;have hEW0:=(((xR w).al _).al _).trans he2;have hBW:=he2.blk ((heap_alloc_old _ _ (by simp)).trans (heap_alloc_new w _));rw [hz.out] at h7;replace he2:=mK he2;obtain ⟨nb,a2,n2,c2,rfl⟩:=h7.shape;have hR:=h7.flat hBW (by simp [Au]) #[.bool nb,.slice a2 n2 c2];have hEW:=mK (hEW0.row (show w.heap.size≤w.heap.size by omega) #[.bool nb,.slice a2 n2 c2]);replace hR:=mK hR;clear h7 hEW0;go_wp2_with (refine wpList_store_row rfl 52 (.tmp 2) (.tmp 19) rfl (w.heap.size) #[.bool nb,.slice a2 n2 c2] rfl rfl 52 _ hBW (by kernel_rfl) rfl (by kernel_rfl) ?_);exact bodyPost_ret (results_cell_row rfl _ _ (w.heap.size) 52 #[.bool nb,.slice a2 n2 c2] (0,0) _ rfl (setRow_heap _ _ _ _ _ _ hBW) Tryz.underlying52 rfl (by kernel_rfl)) rfl ⟨_,rfl,hR.out,hEW.out⟩
 ·have hz:sg false n.natAbs=n:=by simp [sg];omega
  replace hz:=mK hz;go_enter Tryz.func174,Tryz.ntmps174;go_wp2_with fail;refine (Bw false _ n.natAbs _ (Oj _ _ (by omega) _ _ (by omega) (by omega) (w.heap.size+1) (by simp)).rr).mono ?_;rintro e w2 ⟨v,rfl,h7,he2⟩;have hEW0:=(((xR w).al _).al _).trans he2;have hBW:=he2.blk ((heap_alloc_old _ _ (by simp)).trans (heap_alloc_new w _));rw [hz.out] at h7;replace he2:=mK he2;obtain ⟨nb,a2,n2,c2,rfl⟩:=h7.shape;have hR:=h7.flat hBW (by simp [Au]) #[.bool nb,.slice a2 n2 c2];have hEW:=mK (hEW0.row (show w.heap.size≤w.heap.size by omega) #[.bool nb,.slice a2 n2 c2]);replace hR:=mK hR;clear h7 hEW0;go_wp2_with (refine wpList_store_row rfl 52 (.tmp 2) (.tmp 19) rfl (w.heap.size) #[.bool nb,.slice a2 n2 c2] rfl rfl 52 _ hBW (by kernel_rfl) rfl (by kernel_rfl) ?_);exact bodyPost_ret (results_cell_row rfl _ _ (w.heap.size) 52 #[.bool nb,.slice a2 n2 c2] (0,0) _ rfl (setRow_heap _ _ _ _ _ _ hBW) Tryz.underlying52 rfl (by kernel_rfl)) rfl ⟨_,rfl,hR.out,hEW.out⟩
def Ve (k:Int)(X:Int):Prop:=0≤k∧k≤68719476736∧(k=1→X.natAbs=1)
theorem Oi (v:Value)(X:Int)(w:World)(h:IntR w v X)(hX:nl X≤1073741824) :
  Calls Tryz.prog 213 #[v] w fun e w'=>∃ k,e=.returned (.int .i64 k)∧Ve k X∧Ext w w':=by
 obtain ⟨s,rfl,a,c,rfl,_,r⟩:=h;by_cases h0:X=0
 ·subst h0
  have hl:(lim (Int.natAbs 0)).length=0:=by simp [Al]
  rw [hl];clear r;go_enter Tryz.func213,Tryz.ntmps213;go_wp2_with fail;go_ret;exact ⟨0,rfl,⟨by omega,by omega,by omega⟩,(xR _).al _⟩
 ·have hn0:X.natAbs≠0:=by omega
  have hpos:0<(lim X.natAbs).length:=by rw [Az hn0];simp
  have hl:(((lim X.natAbs).length:Int)==0)=false:=by rw [beq_eq_false_iff_ne];omega
  obtain ⟨g,off,ha,hc⟩:=r;have hcell:=Bx hc (show (lim X.natAbs).length-1<(lim X.natAbs).length by omega);have htop:=Ul hn0;have htl:=Ag (Ap X.natAbs) ((lim X.natAbs).length-1)
  have hone:(lim X.natAbs).length=1→(lim X.natAbs).getD ((lim X.natAbs).length-1) 0=1→X.natAbs=1:=by
   intro e1 e2;have:=Aj X.natAbs;generalize lim X.natAbs=l at *;match l,e1 with
   | [y],_=>
    simp [val] at this e2;omega
  obtain rfl:=ha (At hpos);have hlX:(lim X.natAbs).length≤1073741824:=hX;obtain ⟨d,hd⟩:=nmE (decide (X<0));rw [←hd];generalize (lim X.natAbs).getD ((lim X.natAbs).length-1) 0=t at *;generalize (lim X.natAbs).length=n at *;have hcell2:(w.alloc (.cells #[.bool d,.slice (some ⟨g,off,none⟩) n c] 52)).cell? ⟨g,off+(n-1),none⟩=some (.int .u32 (t:Nat)):=((xR w).al _).cell hcell
  have hlt:(w.heap.size=g)=False:=by
   have:=Cl hcell;simp at this;exact eq_false (by omega)
  have hi:((n:Int)-1)=((n-1:Nat):Int):=by omega
  replace hone:=mK hone;replace hd:=mK hd;clear h0 hcell ha hc hn0;go_enter Tryz.func213,Tryz.ntmps213;go_wp2_with fail;go_loop [3,4] (fun a b=>∃ (z:Int) (u:Nat),a=.int .i64 z∧b=.int .u32 (u:Nat)∧z+u≤32*((n:Int)-1)+t∧32*((n:Int)-1)≤z∧((z=32*((n:Int)-1)∧u=t)∨(z=32*((n:Int)-1)+1∧u=t/2)∨32*((n:Int)-1)+2≤z)) (fun _ b=>(intOf b).toNat)
  case atStart=>exact ⟨_,t,rfl,rfl,by omega,by omega,.inl ⟨by omega,rfl⟩⟩
  case round=>
   obtain ⟨z,u,rfl,rfl,h1,h2,h3⟩:=hrel;have hz:z≤68719476736:=by omega
   have hz0:0≤z:=by omega
   by_cases hu:0<u
   ·have h4:((z+1=32*((n:Int)-1)∧u/2=t)∨(z+1=32*((n:Int)-1)+1∧u/2=t/2)∨32*((n:Int)-1)+2≤z+1):=by omega
    replace h3:=mK h3;replace h4:=mK h4;go_wp2_with fail;go_round
    case rel=>exact ⟨z+1,u/2,rfl,by simp,by omega,by omega,h4.out⟩
    case measure=>simp [intOf]<;>omega
   ·obtain rfl:u=0:=by omega
    have hres:Hid (Ve z X):=⟨hz0,by omega,fun e=>hone.out (by omega) (by omega)⟩
    replace h3:=mK h3;go_wp2_with fail;go_ret;exact ⟨z,rfl,hres.out,(xR _).al _⟩
theorem Aeg (X Y:Int):(X.sign<Y.sign→(X-Y).sign = -1)∧(Y.sign<X.sign→(X-Y).sign=1) ∧
  (X.sign=Y.sign→(X.sign<0→(X-Y).sign = -(((X.natAbs:Nat):Int)-Y.natAbs).sign)∧(¬X.sign<0→(X-Y).sign=(((X.natAbs:Nat):Int)-Y.natAbs).sign)):=by
 have sp:∀ z:Int,0<z→z.sign=1:=fun z h=>Int.sign_eq_one_of_pos h;have sn:∀ z:Int,z<0→z.sign = -1:=fun z h=>Int.sign_eq_neg_one_of_neg h;have s0:∀ z:Int,z=0→z.sign=0:=fun z h=>by rw [h];rfl
 rcases Int.lt_trichotomy X 0 with h|h|h<;>rcases Int.lt_trichotomy Y 0 with h'|h'|h'
 ·rw [sn X h,sn Y h']
  refine ⟨by omega,by omega,fun _=>⟨fun _=>?_,by omega⟩⟩;rw [←Int.sign_neg];congr 1;omega
 ·rw [sn X h,s0 Y h',sn (X-Y) (by omega)];omega
 ·rw [sn X h,sp Y h',sn (X-Y) (by omega)];omega
 ·rw [s0 X h,sn Y h',sp (X-Y) (by omega)];omega
 ·subst h;subst h';simp
 ·rw [s0 X h,sp Y h',sn (X-Y) (by omega)];omega
 ·rw [sp X h,sn Y h',sp (X-Y) (by omega)];omega
 ·rw [sp X h,s0 Y h',sp (X-Y) (by omega)];omega
 ·rw [sp X h,sp Y h']
  refine ⟨by omega,by omega,fun _=>⟨by omega,fun _=>?_⟩⟩;congr 1;omega
theorem Gu (X:Int):-1≤X.sign∧X.sign≤1:=by
 rcases Int.lt_trichotomy X 0 with h|h|h
 ·rw [Int.sign_eq_neg_one_of_neg h];omega
 ·subst h;simp
 ·rw [Int.sign_eq_one_of_pos h];omega
theorem Ahj (v1 v2:Value)(X Y:Int)(w:World)(hX:nl X≤1073741824)(hY:nl Y≤1073741824)(h1:IntR w v1 X)(h2:IntR w v2 Y) :
  Calls Tryz.prog 216 #[v1,v2] w fun e w'=>e=.returned (.int .i64 (X-Y).sign)∧Ext w w':=by
 have H1:=mK h1;have H2:=mK h2;obtain ⟨s1,rfl,a1,c1,rfl,_,r1⟩:=h1;obtain ⟨s2,rfl,a2,c2,rfl,_,r2⟩:=h2;replace r1:=mK r1;replace r2:=mK r2;obtain ⟨bx,hbx⟩:=nmE (decide (X<0));obtain ⟨bY,hbY⟩:=nmE (decide (Y<0));rw [←hbx] at H1 ⊢;rw [←hbY] at H2 ⊢;replace hbx:=mK hbx;replace hbY:=mK hbY;have hsc:=Aeg X Y;have rC:=Eh (X:=X.natAbs) (R:=Y.natAbs);have rx:=Gu X;have ry:=Gu Y;have S1:=mK (fun W (e:Ext w W)=>Fw _ X W (H1.out.ext e) hX);have S2:=mK (fun W (e:Ext w W)=>Fw _ Y W (H2.out.ext e) hY);have SC:=mK (fun W (e:Ext w W)=>Po a1 a2 c1 c2 X.natAbs Y.natAbs W (by unfold nl at *;omega) (by unfold nl at *;omega) (r1.out.ext e) (r2.out.ext e));obtain ⟨R,hR⟩:=nmE ((X-Y).sign);rw [←hR] at hsc ⊢;generalize (((X.natAbs:Nat):Int)-Y.natAbs).sign=C at *;generalize X.sign=sx at *;generalize Y.sign=sy at *;generalize (lim X.natAbs).length=n1 at *;generalize (lim Y.natAbs).length=n2 at *;replace hsc:=mK hsc;replace hR:=mK hR;go_enter Tryz.func216,Tryz.ntmps216;go_wp2_with fail;obtain ⟨wb,hwb⟩:=nmE ((w.alloc (.cells #[.bool bx,.slice a1 n1 c1] 52)).alloc (.cells #[.bool bY,.slice a2 n2 c2] 52));have hE:=mK (aLe2 hwb);obtain ⟨h00,h01⟩:=ceX1 (aL20 hwb);obtain ⟨h10,h11⟩:=ceX1 (aL21 hwb);rw [←hwb];clear hwb;replace h00:=mK h00;replace h01:=mK h01;replace h10:=mK h10;replace h11:=mK h11;refine (S1.out _ hE.out).mono ?_;rintro e w1 ⟨rfl,he1⟩;have k10:=h10.out w1 he1;have k11:=h11.out w1 he1;replace he1:=mK he1;clear S1;go_wp2_with fail;refine (S2.out _ (hE.out.trans he1.out)).mono ?_;rintro e w2 ⟨rfl,he2⟩;replace he2:=mK (he1.out.trans he2);clear S2 k10 k11 he1;have k01:=h01.out w2 he2.out;have k11:=h11.out w2 he2.out;replace he1:=mK (hE.out.trans he2.out);clear h00 h01 h10 h11 he2;by_cases hs:sx=sy
 ·subst hs
  obtain ⟨q1,q2⟩:=hsc.out.2.2 rfl;clear hsc;replace q1:=mK q1;replace q2:=mK q2;go_wp2_with fail;refine (SC.out _ he1.out).mono ?_;rintro e w3 ⟨rfl,he3⟩;replace he3:=mK (he1.out.trans he3);clear SC he1;by_cases hn:sx<0
  ·have:=q1.out hn
   subst this;go_wp2_with fail;go_ret;exact ⟨rfl,he3.out⟩
  ·have:=q2.out (by omega)
   subst this;go_wp2_with fail;go_ret;exact ⟨rfl,he3.out⟩
 ·have hne:(sx != sy)=true:=by simpa using hs
  by_cases hlt:sx<sy
  ·have:=hsc.out.1 hlt
   subst this;clear hsc;replace hs:=mK hs;go_wp2_with fail;go_ret;exact ⟨rfl,he1.out⟩
  ·have:=hsc.out.2.1 (by omega)
   subst this;clear hsc;replace hs:=mK hs;go_wp2_with fail;go_ret;exact ⟨rfl,he1.out⟩
theorem Vz (v1 v2:Value)(X Y:Int)(w:World)(hX:nl X≤1073741824)(hY:nl Y≤1073741824)(h1:IntR w v1 X)(h2:IntR w v2 Y) :
  Calls Tryz.prog 173 #[v1,v2] w fun e w'=>e=.returned (.bool (decide (X<Y)))∧Ext w w':=by
 obtain ⟨bx,a1,n1,c1,rfl⟩:=h1.shape;obtain ⟨bY,a2,n2,c2,rfl⟩:=h2.shape;have S1:=mK (fun W (e:Ext w W)=>Ahj _ _ X Y W hX hY (h1.ext e) (h2.ext e));have rx:=Gu (X-Y)
 have hd:decide (X<Y)=decide ((X-Y).sign<0):=by
  rw [Bool.eq_iff_iff];simp only [decide_eq_true_eq,Int.sign_neg_iff];omega
 rw [hd];clear hd h1 h2;generalize (X-Y).sign=C at *;go_enter Tryz.func173,Tryz.ntmps173;go_wp2_with fail;refine (S1.out _ (((xR w).al _).al _)).mono ?_;rintro e w1 ⟨rfl,he1⟩;replace he1:=mK ((((xR w).al _).al _).trans he1);go_wp2_with fail;go_ret;exact ⟨rfl,he1.out⟩
theorem Aca (X:Int):sg (!decide (X<0)) X.natAbs = -X:=by
 unfold sg;by_cases h:X<0
 ·simp [h];omega
 ·simp [h];omega
theorem Yw (v:Value)(X:Int)(w:World)(hX:nl X≤1073741824)(h1:IntR w v X) :
  Calls Tryz.prog 219 #[v] w fun e w'=>∃ v,e=.returned v∧IntR w' v (-X)∧Ext w w':=by
 obtain ⟨s1,rfl,a1,c1,rfl,hc,r1⟩:=h1;obtain ⟨bx,hbx⟩:=nmE (decide (X<0));have SG:=mK (fun W (e:Ext w W)=>Bw (!bx) _ X.natAbs W (RawR.lims ⟨a1,c1,rfl,hc,r1.ext e⟩ (by unfold nl at hX;omega)));rw [hbx,Aca,←hbx] at SG;rw [←hbx];clear hbx r1 hc;generalize (lim X.natAbs).length=n1 at *;go_enter Tryz.func219,Tryz.ntmps219;go_wp2_with fail;refine (SG.out _ (((xR w).al _).al _)).mono ?_;rintro e w2 ⟨v,rfl,h7,he2⟩;have hEW0:=(((xR w).al _).al _).trans he2;have hBW:=he2.blk (Br _ _ (w.heap.size+1) (by simp));replace he2:=mK he2;obtain ⟨nb,a2,n2,c2,rfl⟩:=h7.shape;have hR:=h7.flat hBW (by simp [Au]) #[.bool nb,.slice a2 n2 c2];have hEW:=mK (hEW0.row (show w.heap.size≤w.heap.size+1 by omega) #[.bool nb,.slice a2 n2 c2]);replace hR:=mK hR;clear h7 hEW0;go_wp2_with (refine wpList_store_row rfl 52 (.tmp 2) (.tmp 8) rfl (w.heap.size+1) #[.bool nb,.slice a2 n2 c2] rfl rfl 52 _ hBW (by kernel_rfl) rfl (by kernel_rfl) ?_);exact bodyPost_ret (results_cell_row rfl _ _ (w.heap.size+1) 52 #[.bool nb,.slice a2 n2 c2] (0,0) _ rfl (setRow_heap _ _ _ _ _ _ hBW) Tryz.underlying52 rfl (by kernel_rfl)) rfl ⟨_,rfl,hR.out,hEW.out⟩
theorem Aez (a a':Option Addr)(c c':Nat)(x y:Nat)(w:World)(hl:(lim x).length≤2147483648)(hm:(lim y).length≤2147483648)(h:Row w a (limV (lim x)))(h':Row w a' (limV (lim y))) :
  Calls Tryz.prog 258 #[.slice a (lim x).length c,.slice a' (lim y).length c'] w fun e w'=>∃ v,e=.returned v∧RawR w' v (x+y)∧Ext w w':=by
 refine (Ai5 a a' c c' (lim x) (lim y) w hl hm (Ap _) (Ap _) h h').mono ?_;rintro e w' ⟨v,q,he,h1,h2,h3,h4,h5⟩;rw [Aj,Aj] at h4;exact ⟨v,he,⟨q,h1.r,h2,by omega,h4⟩,h5⟩
theorem Vu (a a':Option Addr)(c c':Nat)(x y:Nat)(w:World)(hl:(lim x).length≤2147483648)(hv:y≤x)(h:Row w a (limV (lim x)))(h':Row w a' (limV (lim y))) :
  Calls Tryz.prog 254 #[.slice a (lim x).length c,.slice a' (lim y).length c'] w fun e w'=>∃ v,e=.returned v∧RawR w' v (x-y)∧Ext w w':=by
 refine (Yx a a' c c' (lim x) (lim y) w hl (An hv) (Ap _) (Ap _) (by rw [Aj,Aj];exact hv) h h').mono ?_;rintro e w' ⟨v,he,h1,h2⟩;rw [Aj,Aj] at h1;have:=An (Nat.sub_le x y);exact ⟨v,he,RawR.lims h1.r (by omega),h2⟩
theorem Aet (a a':Option Addr)(c c':Nat)(x y:Nat)(w:World)(hl:(lim x).length≤1073741824)(hm:(lim y).length≤1073741824)(h:Row w a (limV (lim x)))(h':Row w a' (limV (lim y))) :
  Calls Tryz.prog 220 #[.slice a (lim x).length c,.slice a' (lim y).length c'] w fun e w'=>∃ v,e=.returned v∧RawR w' v (x*y)∧Ext w w':=by
 refine (Aeu a a' c c' (lim x) (lim y) w hl hm (Ap _) (Ap _) h h').mono ?_;rintro e w' ⟨v,he,h1,h2⟩;rw [Aj,Aj] at h1;have:=On x y;exact ⟨v,he,RawR.lims h1.r (by omega),h2⟩
theorem Vw (v1 v2:Value)(X Y:Int)(w:World)(hX:nl X≤1073741824)(hY:nl Y≤1073741824)(h1:IntR w v1 X)(h2:IntR w v2 Y) :
  Calls Tryz.prog 218 #[v1,v2] w fun e w'=>∃ v,e=.returned v∧IntR w' v (X+Y)∧Ext w w':=by
 obtain ⟨s1,rfl,a1,c1,rfl,_,r1⟩:=h1;obtain ⟨s2,rfl,a2,c2,rfl,_,r2⟩:=h2;obtain ⟨bx,hbx⟩:=nmE (decide (X<0));obtain ⟨bY,hbY⟩:=nmE (decide (Y<0));rw [←hbx,←hbY];have hXl:(lim X.natAbs).length≤1073741824:=hX;have hYl:(lim Y.natAbs).length≤1073741824:=hY;by_cases hs:bx=bY
 ·have hsg:sg bx (X.natAbs+Y.natAbs)=X+Y:=by
   rw [hbx] at hs ⊢;rw [hbY] at hs;unfold sg;by_cases h:X<0
   ·have:Y<0:=by simpa [h] using hs
    simp [h];omega
   ·have:¬Y<0:=by simpa [h] using hs
    simp [h];omega
  have AD:=mK (fun W (e:Ext w W)=>Aez a1 a2 c1 c2 X.natAbs Y.natAbs W (by omega) (by omega) (r1.ext e) (r2.ext e));have SG:=mK (fun s W h=>Bw bx s (X.natAbs+Y.natAbs) W h);rw [hsg] at SG;subst hs;clear hsg hbx hbY hXl hYl hX hY r1 r2;generalize (lim X.natAbs).length=n1 at *;generalize (lim Y.natAbs).length=n2 at *;generalize X.natAbs+Y.natAbs=M at *;go_enter Tryz.func218,Tryz.ntmps218;go_wp2_with fail;obtain ⟨wb,hwb⟩:=nmE (((w.alloc (.cells #[.bool bx,.slice a1 n1 c1] 52)).alloc (.cells #[.bool bx,.slice a2 n2 c2] 52)).alloc (.cells #[.bool false,.slice none 0 0] 52));have hE:=mK (aLe3 hwb);obtain ⟨h00,h01⟩:=ceX1 (aL30 hwb);obtain ⟨h10,h11⟩:=ceX1 (aL31 hwb);have hB:=mK (fun W (e:Ext wb W)=>e.blk (aL32 hwb));rw [←hwb];clear hwb;have hE0:=xR wb;apply Ad [.val _,.val _,.val _,.val _,.val _,.val _,.pred (fun W v=>RawR W v (M)),.pred (fun W v=>IntR W v (X+Y))] (by kernel_rfl) (stable_vals _ (stable_vals _ (stable_vals _ (stable_vals _ (stable_vals _ (stable_vals _ (Ku _ (Bj _ trivial))))))));iterate 6 (refine ⟨fun W hW _=>by go_simp;exact ⟨xR _,rfl⟩,?_⟩)
  refine ⟨fun W hW _=>?g6,fun v6=>⟨fun W hW hF=>?g7,fun v7=>fun W hW hF=>?fin⟩⟩
  case g6=>
   go_simp;refine (AD.out W (hE.out.trans (hE0.trans hW))).mono ?_;rintro e w' ⟨v,rfl,h1,h2⟩;exact ⟨v,rfl,h2,h1⟩
  case g7=>
   have d6:Hid (RawR W v6 (M)):=hF.1 (by kernel_rfl);clear hF;go_simp;refine (SG.out v6 W d6.out).mono ?_;rintro e w' ⟨v,rfl,h1,h2⟩;exact ⟨v,rfl,h2,h1⟩
  case fin=>
   have d7:IntR W v7 (X+Y):=hF.1 rfl;have hBW:=hB.out W (hE0.trans hW);have hEW0:=hE.out.trans (hE0.trans hW);clear hF h00 h01 h10 h11 AD SG hW;go_simp;obtain ⟨nb,a2,n2,c2,rfl⟩:=d7.shape;have hR:=d7.flat hBW (by simp [Au]) #[.bool nb,.slice a2 n2 c2];have hEW:=mK (hEW0.row (show w.heap.size≤w.heap.size+2 by omega) #[.bool nb,.slice a2 n2 c2]);replace hR:=mK hR;clear d7 hEW0;go_wp2_with (refine wpList_store_row rfl 52 (.tmp 4) (.tmp 17) rfl (w.heap.size+2) #[.bool nb,.slice a2 n2 c2] rfl rfl 52 _ hBW (by kernel_rfl) rfl (by kernel_rfl) ?_);exact bodyPost_ret (results_cell_row rfl _ _ (w.heap.size+2) 52 #[.bool nb,.slice a2 n2 c2] (0,0) _ rfl (setRow_heap _ _ _ _ _ _ hBW) Tryz.underlying52 rfl (by kernel_rfl)) rfl ⟨_,rfl,hR.out,hEW.out⟩
 ·have hne:(bx==bY)=false:=by simpa using hs
  have hxy:(X<0∧¬Y<0)∨(¬X<0∧Y<0):=by
   rw [hbx,hbY] at hs;by_cases h:X<0<;>by_cases h':Y<0<;>simp [h,h'] at hs ⊢<;>omega
  have SC:=mK (fun W (e:Ext w W)=>Po a1 a2 c1 c2 X.natAbs Y.natAbs W (by omega) (by omega) (r1.ext e) (r2.ext e));have rC:=Eh (X:=X.natAbs) (R:=Y.natAbs);by_cases hlt:X.natAbs<Y.natAbs
  ·have hcs:=Oz hlt
   rw [hcs] at SC
   have hsg:sg bY (Y.natAbs-X.natAbs)=X+Y:=by
    rw [hbY];unfold sg;by_cases h:Y<0
    ·simp [h];omega
    ·simp [h];omega
   have AD:=mK (fun W (e:Ext w W)=>Vu a2 a1 c2 c1 Y.natAbs X.natAbs W (by omega) (by omega) (r2.ext e) (r1.ext e));have SG:=mK (fun s W h=>Bw bY s (Y.natAbs-X.natAbs) W h);rw [hsg] at SG;clear hsg hbx hbY hXl hYl hX hY r1 r2 hcs rC hxy hlt hs;generalize (lim X.natAbs).length=n1 at *;generalize (lim Y.natAbs).length=n2 at *;generalize Y.natAbs-X.natAbs=M at *;go_enter Tryz.func218,Tryz.ntmps218;go_wp2_with fail;obtain ⟨wb,hwb⟩:=nmE (((w.alloc (.cells #[.bool bx,.slice a1 n1 c1] 52)).alloc (.cells #[.bool bY,.slice a2 n2 c2] 52)).alloc (.cells #[.bool false,.slice none 0 0] 52));have hE:=mK (aLe3 hwb);obtain ⟨h00,h01⟩:=ceX1 (aL30 hwb);obtain ⟨h10,h11⟩:=ceX1 (aL31 hwb);have hB:=mK (fun W (e:Ext wb W)=>e.blk (aL32 hwb));rw [←hwb];clear hwb;refine (SC.out _ hE.out).mono ?_;rintro e w1 ⟨rfl,hE0⟩;clear SC;go_wp2_with fail;replace h00:=exL h00 hE0;replace h01:=exL h01 hE0;replace h10:=exL h10 hE0;replace h11:=exL h11 hE0;apply Ad [.val _,.val _,.val _,.val _,.val _,.val _,.pred (fun W v=>RawR W v (M)),.pred (fun W v=>IntR W v (X+Y))] (by kernel_rfl) (stable_vals _ (stable_vals _ (stable_vals _ (stable_vals _ (stable_vals _ (stable_vals _ (Ku _ (Bj _ trivial))))))));iterate 6 (refine ⟨fun W hW _=>by go_simp;exact ⟨xR _,rfl⟩,?_⟩)
   refine ⟨fun W hW _=>?g6,fun v6=>⟨fun W hW hF=>?g7,fun v7=>fun W hW hF=>?fin⟩⟩
   case g6=>
    go_simp;refine (AD.out W (hE.out.trans (hE0.trans hW))).mono ?_;rintro e w' ⟨v,rfl,h1,h2⟩;exact ⟨v,rfl,h2,h1⟩
   case g7=>
    have d6:Hid (RawR W v6 (M)):=hF.1 (by kernel_rfl);clear hF;go_simp;refine (SG.out v6 W d6.out).mono ?_;rintro e w' ⟨v,rfl,h1,h2⟩;exact ⟨v,rfl,h2,h1⟩
   case fin=>
    have d7:IntR W v7 (X+Y):=hF.1 rfl;have hBW:=hB.out W (hE0.trans hW);have hEW0:=hE.out.trans (hE0.trans hW);clear hF h00 h01 h10 h11 AD SG hW;go_simp;obtain ⟨nb,a2,n2,c2,rfl⟩:=d7.shape;have hR:=d7.flat hBW (by simp [Au]) #[.bool nb,.slice a2 n2 c2];have hEW:=mK (hEW0.row (show w.heap.size≤w.heap.size+2 by omega) #[.bool nb,.slice a2 n2 c2]);replace hR:=mK hR;clear d7 hEW0;go_wp2_with (refine wpList_store_row rfl 52 (.tmp 4) (.tmp 39) rfl (w.heap.size+2) #[.bool nb,.slice a2 n2 c2] rfl rfl 52 _ hBW (by kernel_rfl) rfl (by kernel_rfl) ?_);exact bodyPost_ret (results_cell_row rfl _ _ (w.heap.size+2) 52 #[.bool nb,.slice a2 n2 c2] (0,0) _ rfl (setRow_heap _ _ _ _ _ _ hBW) Tryz.underlying52 rfl (by kernel_rfl)) rfl ⟨_,rfl,hR.out,hEW.out⟩
  ·have hge:0≤(((X.natAbs:Nat):Int)-Y.natAbs).sign:=by
    rcases Nat.lt_trichotomy X.natAbs Y.natAbs with h|h|h
    ·omega
    ·rw [Pb h];omega
    ·rw [Pa h];omega
   have hsg:sg bx (X.natAbs-Y.natAbs)=X+Y:=by
    rw [hbx];unfold sg;by_cases h:X<0
    ·simp [h];omega
    ·simp [h];omega
   have AD:=mK (fun W (e:Ext w W)=>Vu a1 a2 c1 c2 X.natAbs Y.natAbs W (by omega) (by omega) (r1.ext e) (r2.ext e));have SG:=mK (fun s W h=>Bw bx s (X.natAbs-Y.natAbs) W h);rw [hsg] at SG;clear hsg hbx hbY hXl hYl hX hY r1 r2 hxy hlt hs;generalize (((X.natAbs:Nat):Int)-Y.natAbs).sign=C at *;generalize (lim X.natAbs).length=n1 at *;generalize (lim Y.natAbs).length=n2 at *;generalize X.natAbs-Y.natAbs=M at *;go_enter Tryz.func218,Tryz.ntmps218;go_wp2_with fail;obtain ⟨wb,hwb⟩:=nmE (((w.alloc (.cells #[.bool bx,.slice a1 n1 c1] 52)).alloc (.cells #[.bool bY,.slice a2 n2 c2] 52)).alloc (.cells #[.bool false,.slice none 0 0] 52));have hE:=mK (aLe3 hwb);obtain ⟨h00,h01⟩:=ceX1 (aL30 hwb);obtain ⟨h10,h11⟩:=ceX1 (aL31 hwb);have hB:=mK (fun W (e:Ext wb W)=>e.blk (aL32 hwb));rw [←hwb];clear hwb;refine (SC.out _ hE.out).mono ?_;rintro e w1 ⟨rfl,hE0⟩;clear SC;go_wp2_with fail;replace h00:=exL h00 hE0;replace h01:=exL h01 hE0;replace h10:=exL h10 hE0;replace h11:=exL h11 hE0;apply Ad [.val _,.val _,.val _,.val _,.val _,.val _,.pred (fun W v=>RawR W v (M)),.pred (fun W v=>IntR W v (X+Y))] (by kernel_rfl) (stable_vals _ (stable_vals _ (stable_vals _ (stable_vals _ (stable_vals _ (stable_vals _ (Ku _ (Bj _ trivial))))))));iterate 6 (refine ⟨fun W hW _=>by go_simp;exact ⟨xR _,rfl⟩,?_⟩)
   refine ⟨fun W hW _=>?g6,fun v6=>⟨fun W hW hF=>?g7,fun v7=>fun W hW hF=>?fin⟩⟩
   case g6=>
    go_simp;refine (AD.out W (hE.out.trans (hE0.trans hW))).mono ?_;rintro e w' ⟨v,rfl,h1,h2⟩;exact ⟨v,rfl,h2,h1⟩
   case g7=>
    have d6:Hid (RawR W v6 (M)):=hF.1 (by kernel_rfl);clear hF;go_simp;refine (SG.out v6 W d6.out).mono ?_;rintro e w' ⟨v,rfl,h1,h2⟩;exact ⟨v,rfl,h2,h1⟩
   case fin=>
    have d7:IntR W v7 (X+Y):=hF.1 rfl;have hBW:=hB.out W (hE0.trans hW);have hEW0:=hE.out.trans (hE0.trans hW);clear hF h00 h01 h10 h11 AD SG hW;go_simp;obtain ⟨nb,a2,n2,c2,rfl⟩:=d7.shape;have hR:=d7.flat hBW (by simp [Au]) #[.bool nb,.slice a2 n2 c2];have hEW:=mK (hEW0.row (show w.heap.size≤w.heap.size+2 by omega) #[.bool nb,.slice a2 n2 c2]);replace hR:=mK hR;clear d7 hEW0;go_wp2_with (refine wpList_store_row rfl 52 (.tmp 4) (.tmp 31) rfl (w.heap.size+2) #[.bool nb,.slice a2 n2 c2] rfl rfl 52 _ hBW (by kernel_rfl) rfl (by kernel_rfl) ?_);exact bodyPost_ret (results_cell_row rfl _ _ (w.heap.size+2) 52 #[.bool nb,.slice a2 n2 c2] (0,0) _ rfl (setRow_heap _ _ _ _ _ _ hBW) Tryz.underlying52 rfl (by kernel_rfl)) rfl ⟨_,rfl,hR.out,hEW.out⟩
theorem Sg (v1 v2:Value)(X Y:Int)(w:World)(hX:nl X≤1073741824)(hY:nl Y≤1073741824)(h1:IntR w v1 X)(h2:IntR w v2 Y) :
  Calls Tryz.prog 175 #[v1,v2] w fun e w'=>∃ v,e=.returned v∧IntR w' v (X-Y)∧Ext w w':=by
 obtain ⟨bx,a1,n1,c1,rfl⟩:=h1.shape;obtain ⟨bY,a2,n2,c2,rfl⟩:=h2.shape;have TN:=mK (fun W (e:Ext w W)=>Yw _ Y W hY (h2.ext e));have PL:=mK (fun v W (e:Ext w W) h=>Vw _ v X (-Y) W hX (by unfold nl at *;simpa using hY) (h1.ext e) h);rw [←Int.sub_eq_add_neg] at PL;clear h1 h2 hX hY;go_enter Tryz.func175,Tryz.ntmps175;go_wp2_with fail;obtain ⟨wb,hwb⟩:=nmE (((w.alloc (.cells #[.bool bx,.slice a1 n1 c1] 52)).alloc (.cells #[.bool bY,.slice a2 n2 c2] 52)).alloc (.cells #[.bool false,.slice none 0 0] 52));have hE:=mK (aLe3 hwb);obtain ⟨h00,h01⟩:=ceX1 (aL30 hwb);obtain ⟨h10,h11⟩:=ceX1 (aL31 hwb);have hB:=mK (fun W (e:Ext wb W)=>e.blk (aL32 hwb));rw [←hwb];clear hwb;apply Ad [.val _,.val _,.pred (fun W v=>IntR W v (-Y)),.pred (fun W v=>IntR W v (X-Y))] (by kernel_rfl) (stable_vals _ (stable_vals _ (Bj _ (Bj _ trivial))));iterate 2 (refine ⟨fun W hW _=>by go_simp;exact ⟨xR _,rfl⟩,?_⟩)
 refine ⟨fun W hW _=>?g6,fun v6=>⟨fun W hW hF=>?g7,fun v7=>fun W hW hF=>?fin⟩⟩
 case g6=>
  go_simp;refine (TN.out W (hE.out.trans hW)).mono ?_;rintro e w' ⟨v,rfl,h1,h2⟩;exact ⟨v,rfl,h2,h1⟩
 case g7=>
  have d6:Hid (IntR W v6 (-Y)):=hF.1 (by kernel_rfl);clear hF;go_simp;refine (PL.out v6 W (hE.out.trans hW) d6.out).mono ?_;rintro e w' ⟨v,rfl,h1,h2⟩;exact ⟨v,rfl,h2,h1⟩
 case fin=>
  have d7:IntR W v7 (X-Y):=hF.1 rfl;have hBW:=hB.out W hW;have hEW0:=hE.out.trans hW;clear hF h00 h01 h10 h11 TN PL hW;go_simp;obtain ⟨nb,a2,n2,c2,rfl⟩:=d7.shape;have hR:=d7.flat hBW (by simp [Au]) #[.bool nb,.slice a2 n2 c2];have hEW:=mK (hEW0.row (show w.heap.size≤w.heap.size+2 by omega) #[.bool nb,.slice a2 n2 c2]);replace hR:=mK hR;clear d7 hEW0;go_wp2_with (refine wpList_store_row rfl 52 (.tmp 4) (.tmp 8) rfl (w.heap.size+2) #[.bool nb,.slice a2 n2 c2] rfl rfl 52 _ hBW (by kernel_rfl) rfl (by kernel_rfl) ?_);exact bodyPost_ret (results_cell_row rfl _ _ (w.heap.size+2) 52 #[.bool nb,.slice a2 n2 c2] (0,0) _ rfl (setRow_heap _ _ _ _ _ _ hBW) Tryz.underlying52 rfl (by kernel_rfl)) rfl ⟨_,rfl,hR.out,hEW.out⟩
theorem Gv (v1 v2:Value)(X Y:Int)(w:World)(hX:nl X≤1073741824)(hY:nl Y≤1073741824)(h1:IntR w v1 X)(h2:IntR w v2 Y) :
  Calls Tryz.prog 176 #[v1,v2] w fun e w'=>∃ v,e=.returned v∧IntR w' v (X*Y)∧Ext w w':=by
 obtain ⟨s1,rfl,a1,c1,rfl,_,r1⟩:=h1;obtain ⟨s2,rfl,a2,c2,rfl,_,r2⟩:=h2;have hsg:=Aei X Y;obtain ⟨bx,hbx⟩:=nmE (decide (X<0));obtain ⟨bY,hbY⟩:=nmE (decide (Y<0));rw [←hbx,←hbY] at hsg ⊢;have AD:=mK (fun W (e:Ext w W)=>Aet a1 a2 c1 c2 X.natAbs Y.natAbs W hX hY (r1.ext e) (r2.ext e));have SG:=mK (fun s W h=>Bw (bx != bY) s (X.natAbs*Y.natAbs) W h);rw [hsg] at SG;clear hsg hbx hbY hX hY r1 r2;generalize (lim X.natAbs).length=n1 at *;generalize (lim Y.natAbs).length=n2 at *;generalize X.natAbs*Y.natAbs=M at *;go_enter Tryz.func176,Tryz.ntmps176;go_wp2_with fail;obtain ⟨wb,hwb⟩:=nmE (((w.alloc (.cells #[.bool bx,.slice a1 n1 c1] 52)).alloc (.cells #[.bool bY,.slice a2 n2 c2] 52)).alloc (.cells #[.bool false,.slice none 0 0] 52));have hE:=mK (aLe3 hwb);obtain ⟨h00,h01⟩:=ceX1 (aL30 hwb);obtain ⟨h10,h11⟩:=ceX1 (aL31 hwb);have hB:=mK (fun W (e:Ext wb W)=>e.blk (aL32 hwb));rw [←hwb];clear hwb;apply Ad [.val _,.val _,.val _,.val _,.val _,.val _,.val _,.val _,.val _,.pred (fun W v=>RawR W v M),.pred (fun W v=>IntR W v (X*Y))] (by kernel_rfl) (stable_vals _ (stable_vals _ (stable_vals _ (stable_vals _ (stable_vals _ (stable_vals _ (stable_vals _ (stable_vals _ (stable_vals _ (Ku _ (Bj _ trivial)))))))))));iterate 9 (refine ⟨fun W hW _=>by go_simp;exact ⟨xR _,rfl⟩,?_⟩)
 refine ⟨fun W hW _=>?g6,fun v6=>⟨fun W hW hF=>?g7,fun v7=>fun W hW hF=>?fin⟩⟩
 case g6=>
  go_simp;refine (AD.out W (hE.out.trans hW)).mono ?_;rintro e w' ⟨v,rfl,h1,h2⟩;exact ⟨v,rfl,h2,h1⟩
 case g7=>
  have d6:Hid (RawR W v6 M):=hF.1 (by kernel_rfl);clear hF;go_simp;refine (SG.out v6 W d6.out).mono ?_;rintro e w' ⟨v,rfl,h1,h2⟩;exact ⟨v,rfl,h2,h1⟩
 case fin=>
  have d7:IntR W v7 (X*Y):=hF.1 rfl;have hBW:=hB.out W hW;have hEW0:=hE.out.trans hW;clear hF h00 h01 h10 h11 AD SG hW;go_simp;obtain ⟨nb,a2,n2,c2,rfl⟩:=d7.shape;have hR:=d7.flat hBW (by simp [Au]) #[.bool nb,.slice a2 n2 c2];have hEW:=mK (hEW0.row (show w.heap.size≤w.heap.size+2 by omega) #[.bool nb,.slice a2 n2 c2]);replace hR:=mK hR;clear d7 hEW0;go_wp2_with (refine wpList_store_row rfl 52 (.tmp 4) (.tmp 15) rfl (w.heap.size+2) #[.bool nb,.slice a2 n2 c2] rfl rfl 52 _ hBW (by kernel_rfl) rfl (by kernel_rfl) ?_);exact bodyPost_ret (results_cell_row rfl _ _ (w.heap.size+2) 52 #[.bool nb,.slice a2 n2 c2] (0,0) _ rfl (setRow_heap _ _ _ _ _ _ hBW) Tryz.underlying52 rfl (by kernel_rfl)) rfl ⟨_,rfl,hR.out,hEW.out⟩
theorem RestR.raw {w:World}{v:Value}{n:Nat}(h:RestR w v n)(hl:(lim n).length≤4294967296):RawR w v n:=by
 obtain ⟨a,c,h1,h2,h3⟩:=h.r;exact RawR.lims ⟨a,c,h1,h2,h3⟩ hl
theorem Agz {ss:List FSpec}(x:Int)(lo:Nat)(h:StableAll Ext ss):StableAll Ext (.pred (fun W v=>IntR W v x∧NewI lo v)::ss):=⟨fun _ _ _ e h=>⟨h.1.ext e,h.2⟩,h⟩
theorem Ty (v1 v2:Value)(X Y:Int)(w:World)(hX:nl X≤536870912)(hY:nl Y≤536870912)(hY0:Y≠0)(h1:IntR w v1 X)(h2:IntR w v2 Y) :
  Calls Tryz.prog 215 #[v1,v2] w fun e w'=>∃ q r,e=.returned (.tuple #[q,r])∧IntR w' q (X.tdiv Y)∧IntR w' r (X.tmod Y)∧Ext w w'∧NewI w.heap.size q:=by
 obtain ⟨s1,rfl,a1,c1,rfl,_,r1⟩:=h1;obtain ⟨s2,rfl,a2,c2,rfl,_,r2⟩:=h2;have hsq:=Of X Y;have hsr:=Oe X Y;have hXl:(lim X.natAbs).length≤536870912:=hX;have hYl:(lim Y.natAbs).length≤536870912:=hY;have hq:=An (Nat.div_le_self X.natAbs Y.natAbs);have hr:=An (Nat.mod_le X.natAbs Y.natAbs);obtain ⟨bx,hbx⟩:=nmE (decide (X<0));obtain ⟨bY,hbY⟩:=nmE (decide (Y<0));rw [←hbx,←hbY] at hsq;rw [←hbx] at hsr;rw [←hbx,←hbY];have DV:=mK (fun W (e:Ext w W)=>Acl a1 a2 c1 c2 X.natAbs Y.natAbs W hX hY (by omega) (r1.ext e) (r2.ext e));have SQ:=mK (fun s W h=>Rs (bx != bY) s (X.natAbs/Y.natAbs) W h);have SR:=mK (fun s W h=>Bw bx s (X.natAbs%Y.natAbs) W h);rw [hsq] at SQ;rw [hsr] at SR;clear hsq hsr hbx hbY hX hY r1 r2;generalize (lim X.natAbs).length=n1 at *;generalize (lim Y.natAbs).length=n2 at *;generalize X.natAbs/Y.natAbs=Q at *;generalize X.natAbs%Y.natAbs=R at *;go_enter Tryz.func215,Tryz.ntmps215;go_wp2_with fail;obtain ⟨wb,hwb⟩:=nmE ((((w.alloc (.cells #[.bool bx,.slice a1 n1 c1] 52)).alloc (.cells #[.bool bY,.slice a2 n2 c2] 52)).alloc (.cells #[.bool false,.slice none 0 0] 52)).alloc (.cells #[.bool false,.slice none 0 0] 52));have hE:=mK (aLe4 hwb);have h00:=ceX0 (aL40 hwb);have h10:=ceX0 (aL41 hwb);have hB2:=mK (fun W (e:Ext wb W)=>e.blk (aL42 hwb));have hB3:=mK (fun W (e:Ext wb W)=>e.blk (aL43 hwb));rw [←hwb];clear hwb;refine (DV.out _ hE.out).mono ?_;rintro e w1 ⟨vq,vr,rfl,hq1,hr1,he1,hnv⟩;replace hnv:=mK (show NewV w.heap.size vq from fun g hg=>nT hE.out.size (hnv g hg));have dq:=mK (hq1.raw (by omega));have dr:=mK (hr1.raw (by omega));replace h00:=exL h00 he1;replace h10:=exL h10 he1;replace hB2:=mK (fun W (e:Ext w1 W)=>hB2.out W (he1.trans e));replace hB3:=mK (fun W (e:Ext w1 W)=>hB3.out W (he1.trans e));replace hE:=mK (hE.out.trans he1);clear hq1 hr1 he1 DV;go_wp2_with fail;apply Ad [.val _,.val _,.val _,.val _,.val _,.val _,.pred (fun W v=>IntR W v (X.tdiv Y)∧NewI w.heap.size v),.val _,.val _,.val _,.pred (fun W v=>IntR W v (X.tmod Y))] (by kernel_rfl) (stable_vals _ (stable_vals _ (stable_vals _ (stable_vals _ (stable_vals _ (stable_vals _ (Agz _ _ (stable_vals _ (stable_vals _ (stable_vals _ (Bj _ trivial)))))))))))
 iterate 6 (refine ⟨fun W hW _=>by go_simp;exact ⟨xR _,rfl⟩,?_⟩)
 refine ⟨fun W hW _=>?g6,fun v6=>?_⟩
 case g6=>
  go_simp;refine (SQ.out vq W (dq.out.ext hW)).mono ?_;rintro e w' ⟨v,rfl,h1,h2,h3⟩;exact ⟨v,rfl,h2,h1,h3 _ hnv.out⟩
 iterate 3 (refine ⟨fun W hW _=>by go_simp;exact ⟨xR _,rfl⟩,?_⟩)
 refine ⟨fun W hW _=>?g10,fun v10=>fun W hW hF=>?fin⟩
 case g10=>
  go_simp;refine (SR.out vr W (dr.out.ext hW)).mono ?_;rintro e w' ⟨v,rfl,h1,h2⟩;exact ⟨v,rfl,h2,h1⟩
 case fin=>
  have d6':IntR W v6 (X.tdiv Y)∧NewI w.heap.size v6:=hF.2.1 rfl;obtain ⟨d6,d6n⟩:=d6';replace d6n:=mK d6n;have d10:IntR W v10 (X.tmod Y):=hF.1 rfl;have b2:=hB2.out W hW;have b3:=hB3.out W hW;obtain ⟨q1,q2,q3,q4,rfl⟩:=d6.shape;obtain ⟨r1,r2,r3,r4,rfl⟩:=d10.shape;have hrows:=Dq W (w.heap.size+2) (w.heap.size+3) #[.bool q1,.slice q2 q3 q4] #[.bool r1,.slice r2 r3 r4] _ _ _ (by omega) b2 b3;have F1:=(d6.flat b2 (by simp [Au]) #[.bool q1,.slice q2 q3 q4]).flat hrows.2.2 (by simp [Au]) #[.bool r1,.slice r2 r3 r4];have F2:=(d10.flat b2 (by simp [Au]) #[.bool q1,.slice q2 q3 q4]).flat hrows.2.2 (by simp [Au]) #[.bool r1,.slice r2 r3 r4];have FE:=mK (((hE.out.trans hW).row (show w.heap.size≤w.heap.size+2 by omega) #[.bool q1,.slice q2 q3 q4]).row (show w.heap.size≤w.heap.size+3 by omega) #[.bool r1,.slice r2 r3 r4]);replace F1:=mK F1;replace F2:=mK F2;replace hrows:=mK hrows;replace b2:=mK b2;clear d6 d10 hF h00 h10 SQ SR hW b3;go_simp
  go_wp2_with (first
   | (refine wpList_store_row rfl 52 (.tmp 4) (.tmp 22) rfl (w.heap.size+2) #[.bool q1,.slice q2 q3 q4] rfl rfl 52 _ b2.out (by kernel_rfl) rfl (by kernel_rfl) ?_)
   | (refine wpList_store_row rfl 52 (.tmp 5) (.tmp 26) rfl (w.heap.size+3) #[.bool r1,.slice r2 r3 r4] rfl rfl 52 _ hrows.out.2.2 (by kernel_rfl) rfl (by kernel_rfl) ?_))
  exact bodyPost_ret (Fx rfl _ _ (w.heap.size+2) (w.heap.size+3) 52 #[.bool q1,.slice q2 q3 q4] #[.bool r1,.slice r2 r3 r4] _ rfl rfl hrows.out.1 hrows.out.2.1 Tryz.underlying52 rfl (by kernel_rfl) (by kernel_rfl)) rfl ⟨_,_,rfl,F1.out,F2.out,FE.out,d6n.out⟩
theorem Abc (v1 v2:Value)(X Y:Int)(w:World)(hX:nl X≤536870912)(hY:nl Y≤536870912)(hY0:Y≠0)(h1:IntR w v1 X)(h2:IntR w v2 Y) :
  Calls Tryz.prog 215 #[v1,v2] w fun e w'=>∃ q r,e=.returned (.tuple #[q,r])∧IntR w' q (X.tdiv Y)∧IntR w' r (X.tmod Y)∧Ext w w':=
 (Ty v1 v2 X Y w hX hY hY0 h1 h2).mono fun _ _ ⟨q,r,h1,h2,h3,h4,_⟩=>⟨q,r,h1,h2,h3,h4⟩
theorem Aeh (X:Int)(k:Nat):sg (decide (X<0)) (X.natAbs*k)=X*k:=by
 unfold sg;by_cases h:X<0
 ·have e:(X.natAbs:Int) = -X:=by omega
  simp only [decide_eq_true h,if_true,Int.natCast_mul,e,Int.neg_mul,Int.neg_neg]
 ·have e:(X.natAbs:Int)=X:=by omega
  simp only [decide_eq_false h,Int.natCast_mul,e];rfl
theorem Ab1 (n:Nat)(l:List Nat):val (List.replicate n 0++l)=4294967296 ^ n*val l:=by
 rw [Cq,Gi,List.length_replicate,Nat.zero_add]
theorem Ahq (n:Nat):OkL (List.replicate n 0):=fun x hx=>by rw [List.eq_of_mem_replicate hx];omega
theorem Rz (n:Nat):4294967296 ^ (n/32)*2 ^ (n%32)=2 ^ n:=by
 rw [show (4294967296:Nat)=2 ^ 32 by decide,←Nat.pow_mul,←Nat.pow_add,Nat.div_add_mod]
theorem pow31 {i:Nat}(h:i≤31):2 ^ i≤2147483648:=by
 have:=Nat.pow_le_pow_right (show 0<2 by omega) h;simpa using this
theorem Sh (v1:Value)(X:Int)(n:Nat)(w:World)(hX:nl X≤268435456)(hn:n≤8589934592)(h1:IntR w v1 X) :
  Calls Tryz.prog 255 #[v1,.int .i64 n] w fun e w'=>∃ v,e=.returned v∧IntR w' v (X*(2 ^ n:Nat))∧Ext w w':=by
 by_cases h0:X=0
 ·subst h0
  obtain ⟨s1,rfl,a1,c1,rfl,_,r1⟩:=h1;have hl:(lim (Int.natAbs 0)).length=0:=by simp [Al]
  have hz:IntR w (.agg #[.bool false,.slice none 0 0]) (0*(2 ^ n:Nat)):=by
   rw [Int.zero_mul];exact ⟨_,rfl,by simp only [Int.natAbs_zero,Al];exact Qb w⟩
  rw [hl];clear r1;replace hz:=mK hz;go_enter Tryz.func255,Tryz.ntmps255;go_wp2_with fail;exact bodyPost_ret (v:=.agg #[.bool false,.slice none 0 0]) (by simp [results,Tryz.results255,go_sem]) rfl ⟨_,rfl,hz.out.ext (((xR _).al _).al _),((xR _).al _).al _⟩
 ·obtain ⟨s1,rfl,a1,c1,rfl,hc1,r1⟩:=h1
  have hn0:X.natAbs≠0:=by omega
  have hpos:0<(lim X.natAbs).length:=by rw [Az hn0];simp
  have hl:(((lim X.natAbs).length:Int)==0)=false:=by rw [beq_eq_false_iff_ne];omega
  have hXl:(lim X.natAbs).length≤268435456:=hX;have hsc:=Aeh X (2 ^ n);obtain ⟨bx,hbx⟩:=nmE (decide (X<0));rw [←hbx] at hsc ⊢;have SG:=mK (fun s W h=>Bw bx s (X.natAbs*2 ^ n) W h);rw [hsc] at SG
  have happ:AppX w (.slice a1 (lim X.natAbs).length c1) (limV (lim X.natAbs)):=by
   obtain ⟨b,off,g1,g2⟩:=r1;have:=g1 (At hpos);subst this;exact .inr ⟨_,c1,by rw [Ah],In g2⟩
  have hq:val (List.replicate (n/32) 0++lim X.natAbs)*2 ^ (n%32)=X.natAbs*2 ^ n:=by
   rw [Ab1,Aj,Nat.mul_assoc,Nat.mul_comm X.natAbs,←Nat.mul_assoc,Rz,Nat.mul_comm]
  have hlq:(List.replicate (n/32) 0++lim X.natAbs).length=n/32+(limV (lim X.natAbs)).length:=by simp [Ah]
  have okq:OkL (List.replicate (n/32) 0++lim X.natAbs):=okL_append.2 ⟨Ahq _,Ap _⟩;have hll:(limV (lim X.natAbs)).length≤268435456:=by rw [Ah];exact hXl
  have hlm:limV (List.replicate (n/32) 0++lim X.natAbs)=limV (List.replicate (n/32) 0)++limV (lim X.natAbs):=by simp [limV]
  have hmk:=fun w=>make32 (n/32) w (by omega);rw [show (((n/32:Nat)):Int)=(n:Int)/32 by omega] at hmk;replace hsc:=mK hsc;replace hbx:=mK hbx;replace hq:=mK hq;replace hlq:=mK hlq;replace hlm:=mK hlm;replace happ:=mK happ
  have hlen0:(lim (X.natAbs*2 ^ n)).length≤4294967296:=by
   have h1:=On X.natAbs (2 ^ n)
   have h2:(lim (2 ^ n)).length≤n/32+1:=by
    refine Cc ?_;rw [←Rz n,Nat.pow_succ];have:=pow31 (show n%32≤31 by omega);exact Nat.mul_lt_mul_of_pos_left (by omega) (Nat.pow_pos (by omega))
   omega
  replace hlen0:=mK hlen0;obtain ⟨i0,hi,hz0,hz1,hz2⟩:=info_parts Dp;generalize (lim X.natAbs).length=n1 at *;clear r1 hn0 hpos;go_enter Tryz.func255,Tryz.ntmps255;go_wp2_with (at_builtin;refine Fl rfl (.tmp 16) (.tmp 18) 50 rfl w.heap.size 136 i0 (.int .u32 0) 4 Bf hi hz0 hz1 hz2 rfl (.slice (some ⟨w.heap.size+1+1,0,none⟩) (n/32) (n/32)) (n/32) (limV (List.replicate (n/32) 0)) rfl ?d0 (limV (lim X.natAbs)) (happ.out.ext ((((xR w).al _).al _).al _)) (Lf _) ?d3 ?d4 ?d5 ?_)
  case d0=>
   have h:=Ck (w:=(w.alloc (.cells #[.bool bx,.slice a1 n1 c1] 52)).alloc (.cells #[.bool false,.slice none 0 0] 52)) (q:=List.replicate (n/32) 0) (by simp;omega);have h2:=h.mono (show w.heap.size≤_ by simp;omega);unfold MagO at h2;rw [List.length_replicate,show ((w.alloc (.cells #[.bool bx,.slice a1 n1 c1] 52)).alloc (.cells #[.bool false,.slice none 0 0] 52)).heap.size=w.heap.size+1+1 by simp] at h2;exact h2
  case d3=>unfold maxLen;omega
  case d4=>omega
  case d5=>simp;omega
  intro v2 w2 hown2 hgrow2;obtain ⟨wb,hwb⟩:=nmE ((w.alloc (.cells #[.bool bx,.slice a1 n1 c1] 52)).alloc (.cells #[.bool false,.slice none 0 0] 52));have hE:=aLe2 hwb
  have hE2:Ext wb w2:=by
   rw [←hwb] at hgrow2;refine ((xR wb).al _).gr hgrow2 (fun k hk=>?_);simp [Value.ownBlock] at hk;rw [hwb];simp;omega
  have k00:=hE2.cell (show wb.cell? ⟨w.heap.size,0,none⟩=some (.bool bx) by rw [hwb];go_simp);have hB:=mK (hE2.blk (show wb.heap[w.heap.size+1]? = some (.cells #[.bool false,.slice none 0 0] 52) by rw [hwb];exact Br _ _ _ (by simp)))
  have hm:MagO w2 w.heap.size v2 (List.replicate (n/32) 0++lim X.natAbs):=by
   unfold MagO;rw [hlq.out,hlm.out];exact hown2
  replace hE:=mK (hE.trans hE2);clear hown2 hgrow2 hwb hE2 happ;obtain ⟨a2,c2,hv2,hle2,hrow2⟩:=hm.r;rw [hlq.out] at hv2 hle2;subst hv2;have hln:(List.replicate (n/32) 0++lim X.natAbs).length≤1073741824:=by rw [hlq.out];omega
  have TM:=fun W (e:Ext w2 W)=>Pf a2 c2 (List.replicate (n/32) 0++lim X.natAbs) (2 ^ (n%32)) W hln okq (by have:=pow31 (show n%32≤31 by omega);omega) (hrow2.ext e);rw [hq.out,hlq.out] at TM;replace TM:=mK TM;replace hrow2:=mK hrow2;clear hm;generalize n/32+(limV (lim X.natAbs)).length=n2 at *;go_wp2_with fail;go_loop [6,7] (fun f i=>∃ (k F:Nat),k≤n%32∧i=.int .i64 (k:Nat)∧f=.int .u32 (F:Nat)∧F=2 ^ k) (fun _ i=>n%32-(intOf i).toNat)
  case atStart=>exact ⟨0,1,Nat.zero_le _,rfl,rfl,rfl⟩
  case round=>
   obtain ⟨k,F,hk,rfl,rfl,hF⟩:=hrel;by_cases hlt:k<n%32
   ·have hb:F≤1073741824:=by
     have:=Nat.pow_le_pow_right (show 0<2 by omega) (show k≤30 by omega);rw [hF];simpa using this
    have hn:2*F=2 ^ (k+1):=by rw [hF,Nat.pow_succ,Nat.mul_comm]
    replace hF:=mK hF;replace hn:=mK hn;have hlt2:(k:Int)<(n:Int)%32:=by omega
    go_wp2_with fail;go_round
    case rel=>exact ⟨k+1,2*F,by omega,by go_num,by simp,hn.out⟩
    case measure=>simp [intOf]<;>omega
   ·obtain rfl:k=n%32:=by omega
    have hFF:=hF;have TM2:=TM.out;rw [←hFF] at TM2;replace TM2:=mK TM2;replace hF:=mK hF;clear hFF TM;go_wp2_with fail;have h00:=fun W (e:Ext w2 W)=>e.cell k00;apply Ad [.val _,.val _,.val _,.val _,.pred (fun W v=>RawR W v (X.natAbs*2 ^ n)),.pred (fun W v=>IntR W v (X*(2 ^ n:Nat)))] (by kernel_rfl) (stable_vals _ (stable_vals _ (stable_vals _ (stable_vals _ (Ku _ (Bj _ trivial))))));iterate 4 (refine ⟨fun W hW _=>by go_simp;exact ⟨xR _,rfl⟩,?_⟩)
    refine ⟨fun W hW _=>?g6,fun v6=>⟨fun W hW hF=>?g7,fun v7=>fun W hW hF=>?fin⟩⟩
    case g6=>
     go_simp;refine (TM2.out W hW).mono ?_;rintro e w' ⟨v,rfl,h1,h2⟩;have hlen:(lim (X.natAbs*2 ^ n)).length≤4294967296:=hlen0.out;exact ⟨v,rfl,h2,RawR.lims h1.r hlen⟩
    case g7=>
     have d6:Hid (RawR W v6 (X.natAbs*2 ^ n)):=hF.1 (by kernel_rfl);clear hF;go_simp;refine (SG.out v6 W d6.out).mono ?_;rintro e w' ⟨v,rfl,h1,h2⟩;exact ⟨v,rfl,h2,h1⟩
    case fin=>
     have d7:IntR W v7 (X*(2 ^ n:Nat)):=hF.1 rfl;have hBW:=hW.blk hB.out;have hEW0:=hE.out.trans hW;clear hF h00 k00 TM2 SG hW;go_simp;obtain ⟨nb,a2,n2,c2,rfl⟩:=d7.shape;have hR:=d7.flat hBW (by simp [Au]) #[.bool nb,.slice a2 n2 c2];have hEW:=mK (hEW0.row (show w.heap.size≤w.heap.size+1 by omega) #[.bool nb,.slice a2 n2 c2]);replace hR:=mK hR;clear d7 hEW0;go_wp2_with (refine wpList_store_row rfl 52 (.tmp 4) (.tmp 33) rfl (w.heap.size+1) #[.bool nb,.slice a2 n2 c2] rfl rfl 52 _ hBW (by kernel_rfl) rfl (by kernel_rfl) ?_);exact bodyPost_ret (results_cell_row rfl _ _ (w.heap.size+1) 52 #[.bool nb,.slice a2 n2 c2] (0,0) _ rfl (setRow_heap _ _ _ _ _ _ hBW) Tryz.underlying52 rfl (by kernel_rfl)) rfl ⟨_,rfl,hR.out,hEW.out⟩
theorem Zp {n:Nat}(h:0<n):lim n≠[]:=by rw [Az (by omega)];simp
theorem Ip (v:Value)(A:Nat)(w:World)(hA:0<A)(hl:(lim A).length≤1073741824)(h:MagR w v (lim A)) :
  Calls Tryz.prog 251 #[v] w fun e w'=>e=.returned (.bool (decide (A%2=0)))∧w=w':=by
 obtain ⟨a,c,rfl,hc,r⟩:=h;have:=Ahh a c (lim A) w (Zp hA) (Ap A) (by omega) r;rwa [Aj] at this
theorem Io (v:Value)(A:Nat)(w:World)(hl:(lim A).length≤1073741824)(h:MagR w v (lim A)) :
  Calls Tryz.prog 252 #[v] w fun e w'=>∃ v,e=.returned v∧MagR w' v (lim (A/2))∧Ext w w':=by
 obtain ⟨a,c,rfl,hc,r⟩:=h;refine (Ahe a c (lim A) w (by omega) (Ap A) r).mono ?_;rintro e w' ⟨v,he,h1,h2⟩;rw [Aj] at h1;exact ⟨v,he,h1.r,h2⟩
theorem Aey (v v':Value)(A B:Nat)(w:World)(hl:(lim A).length≤1073741824)(hm:(lim B).length≤1073741824)(h:MagR w v (lim A))(h':MagR w v' (lim B)) :
  Calls Tryz.prog 253 #[v,v'] w fun e w'=>e=.returned (.int .i64 ((A:Int)-B).sign)∧Ext w w':=by
 obtain ⟨a,c,rfl,hc,r⟩:=h;obtain ⟨a',c',rfl,hc',r'⟩:=h';exact Po a a' c c' A B w (by omega) (by omega) r r'
theorem Tv (v v':Value)(A B:Nat)(w:World)(hl:(lim A).length≤1073741824)(hv:B≤A)(h:MagR w v (lim A))(h':MagR w v' (lim B)) :
  Calls Tryz.prog 254 #[v,v'] w fun e w'=>∃ v,e=.returned v∧MagR w' v (lim (A-B))∧Ext w w':=by
 obtain ⟨a,c,rfl,hc,r⟩:=h;obtain ⟨a',c',rfl,hc',r'⟩:=h';refine (Yx a a' c c' (lim A) (lim B) w (by omega) (An hv) (Ap _) (Ap _) (by rw [Aj,Aj];exact hv) r r').mono ?_;rintro e w' ⟨v,he,h1,h2⟩;rw [Aj,Aj] at h1;exact ⟨v,he,h1.r,h2⟩
theorem Im (v:Value)(A:Nat)(w:World)(hl:(lim A).length≤1073741824)(h:MagR w v (lim A)) :
  Calls Tryz.prog 217 #[.bool false,v] w fun e w'=>∃ v,e=.returned v∧IntR w' v (A:Int)∧Ext w w':=by
 have:=Bw false v A w (RawR.lims h (by omega));unfold sg at this;simpa using this
theorem Lm {A B:Nat}(hA:A%2=0)(hg:Nat.gcd A B%2=1):Nat.gcd (A/2) B=Nat.gcd A B:=by
 obtain ⟨k,rfl⟩:∃ k,A=2*k:=⟨A/2,by omega⟩
 rw [Nat.mul_div_cancel_left _ (by omega)];apply Nat.dvd_antisymm
 ·exact Nat.dvd_gcd (Nat.dvd_trans (Nat.gcd_dvd_left _ _) (Nat.dvd_mul_left _ _)) (Nat.gcd_dvd_right _ _)
 ·refine Nat.dvd_gcd ?_ (Nat.gcd_dvd_right _ _)
  have hc:Nat.Coprime (Nat.gcd (2*k) B) 2:=by
   rw [Nat.coprime_comm];unfold Nat.Coprime;rw [Nat.gcd_rec,hg];rfl
  exact hc.dvd_of_dvd_mul_left (Nat.gcd_dvd_left _ _)
theorem Aib {A B:Nat}(h:¬(A%2=0∧B%2=0)):Nat.gcd A B%2=1:=by
 rcases Nat.mod_two_eq_zero_or_one (Nat.gcd A B) with h0|h0
 ·exfalso
  have hd:2 ∣ Nat.gcd A B:=Nat.dvd_of_mod_eq_zero h0;exact h ⟨Nat.mod_eq_zero_of_dvd (Nat.dvd_trans hd (Nat.gcd_dvd_left _ _)),Nat.mod_eq_zero_of_dvd (Nat.dvd_trans hd (Nat.gcd_dvd_right _ _))⟩
 ·exact h0
theorem Pn (v1 v2:Value)(X Y:Int)(w:World)(hX:nl X≤268435456)(hY:nl Y≤268435456)(h0:X=0∨Y=0)(h1:IntR w v1 X)(h2:IntR w v2 Y) :
  Calls Tryz.prog 214 #[v1,v2] w fun e w'=>∃ v,e=.returned v∧IntR w' v (Int.gcd X Y:Nat)∧Ext w w':=by
 obtain ⟨s1,rfl,m1⟩:=h1;obtain ⟨s2,rfl,m2⟩:=h2;have hXl:(lim X.natAbs).length≤268435456:=hX;have hYl:(lim Y.natAbs).length≤268435456:=hY;obtain ⟨bx,hbx⟩:=nmE (decide (X<0));obtain ⟨bY,hbY⟩:=nmE (decide (Y<0));rw [←hbx,←hbY];have S1:=mK (fun W (e:Ext w W)=>Im s1 X.natAbs W (by omega) (m1.ext e));have S2:=mK (fun W (e:Ext w W)=>Im s2 Y.natAbs W (by omega) (m2.ext e));obtain ⟨a1,c1,rfl,hc1,r1⟩:=m1;obtain ⟨a2,c2,rfl,hc2,r2⟩:=m2;by_cases hX0:X=0
 ·have hl:(lim X.natAbs).length=0:=by rw [hX0];simp [Al]
  have hg:((Int.gcd X Y:Nat):Int)=(Y.natAbs:Int):=by rw [hX0];simp
  rw [hg];rw [hl] at S1 ⊢;clear hbx hbY r1 r2 S1 hg h0 hX hY hX0;go_enter Tryz.func214,Tryz.ntmps214;go_wp2_with fail;refine (S2.out _ ((((xR w).al _).al _).al _)).mono ?_;rintro e w2 ⟨v,rfl,h7,he2⟩;have hEW0:=((((xR w).al _).al _).al _).trans he2;have hBW:=he2.blk (Br _ _ (w.heap.size+2) (by simp));replace he2:=mK he2;obtain ⟨nb,a2,n2,c2,rfl⟩:=h7.shape;have hR:=h7.flat hBW (by simp [Au]) #[.bool nb,.slice a2 n2 c2];have hEW:=mK (hEW0.row (show w.heap.size≤w.heap.size+2 by omega) #[.bool nb,.slice a2 n2 c2]);replace hR:=mK hR;clear h7 hEW0;go_wp2_with (refine wpList_store_row rfl 52 (.tmp 4) (.tmp 17) rfl (w.heap.size+2) #[.bool nb,.slice a2 n2 c2] rfl rfl 52 _ hBW (by kernel_rfl) rfl (by kernel_rfl) ?_);exact bodyPost_ret (results_cell_row rfl _ _ (w.heap.size+2) 52 #[.bool nb,.slice a2 n2 c2] (0,0) _ rfl (setRow_heap _ _ _ _ _ _ hBW) Tryz.underlying52 rfl (by kernel_rfl)) rfl ⟨_,rfl,hR.out,hEW.out⟩
 ·have hY0:Y=0:=by omega
  have hl:(lim Y.natAbs).length=0:=by rw [hY0];simp [Al]
  have hg:((Int.gcd X Y:Nat):Int)=(X.natAbs:Int):=by rw [hY0];simp
  have hp:(((lim X.natAbs).length:Int)==0)=false:=by
   have:X.natAbs≠0:=by omega
   rw [Az this,beq_eq_false_iff_ne];simp;omega
  rw [hg];rw [hl] at S2 ⊢;clear hbx hbY r1 r2 S2 hg h0 hX hY;replace hX0:=mK hX0;replace hY0:=mK hY0;go_enter Tryz.func214,Tryz.ntmps214;go_wp2_with fail;refine (S1.out _ ((((xR w).al _).al _).al _)).mono ?_;rintro e w2 ⟨v,rfl,h7,he2⟩;have hEW0:=((((xR w).al _).al _).al _).trans he2;have hBW:=he2.blk (Br _ _ (w.heap.size+2) (by simp));replace he2:=mK he2;obtain ⟨nb,a2,n2,c2,rfl⟩:=h7.shape;have hR:=h7.flat hBW (by simp [Au]) #[.bool nb,.slice a2 n2 c2];have hEW:=mK (hEW0.row (show w.heap.size≤w.heap.size+2 by omega) #[.bool nb,.slice a2 n2 c2]);replace hR:=mK hR;clear h7 hEW0;go_wp2_with (refine wpList_store_row rfl 52 (.tmp 4) (.tmp 22) rfl (w.heap.size+2) #[.bool nb,.slice a2 n2 c2] rfl rfl 52 _ hBW (by kernel_rfl) rfl (by kernel_rfl) ?_);exact bodyPost_ret (results_cell_row rfl _ _ (w.heap.size+2) 52 #[.bool nb,.slice a2 n2 c2] (0,0) _ rfl (setRow_heap _ _ _ _ _ _ hBW) Tryz.underlying52 rfl (by kernel_rfl)) rfl ⟨_,rfl,hR.out,hEW.out⟩
def Com1 (wb wr:World)(v5 v6 T:Value)(x y:Nat):Prop:=
 ∃ A B t:Nat,T=.int .i64 (t:Nat)∧A*2 ^ t=x∧B*2 ^ t=y∧MagR wr v5 (lim A)∧MagR wr v6 (lim B)∧Ext wb wr
def Com3 (wb wr:World)(v5 v6:Value)(N g k:Nat):Prop:=
 ∃ A B,k=A+B∧0<B∧(lim A).length≤N∧(lim B).length≤N∧MagR wr v5 (lim A)∧MagR wr v6 (lim B)∧Nat.gcd A B=g∧Ext wb wr
def Com4 (wo wr:World)(v:Value)(N M g B k:Nat):Prop:=0<k∧k≤M∧(lim k).length≤N∧MagR wr v (lim k)∧Nat.gcd k B=g∧Ext wo wr
theorem Lh {k:Nat}(h:0<k)(he:k%2=0):0<k/2∧k/2<k:=by omega
theorem Qw {A t x:Nat}(hx:0<x)(h:A*2 ^ t=x):0<A∧A≤x∧t<x:=by
 have hA:0<A:=by
  rcases Nat.eq_zero_or_pos A with h0|h0
  ·subst h0;simp at h;omega
  ·exact h0
 refine ⟨hA,?_,?_⟩
 ·rw [←h];exact Nat.le_mul_of_pos_right _ (Nat.two_pow_pos t)
 ·have h1:t<2 ^ t:=Nat.lt_two_pow_self
  have h2:2 ^ t≤A*2 ^ t:=Nat.le_mul_of_pos_left _ hA;omega
theorem Ajk {A t x:Nat}(hA:0<A)(h:A*2 ^ t=x):t<32*(lim x).length:=by
 have h1:=Dk x;have h3:2 ^ t≤A*2 ^ t:=Nat.le_mul_of_pos_left _ hA;rw [show (4294967296:Nat)=2 ^ 32 by decide,←Nat.pow_mul] at h1;exact (Nat.pow_lt_pow_iff_right (show 1<2 by omega)).1 (Nat.lt_of_le_of_lt (by rw [h] at h3;exact h3) h1)
theorem Th {A t x:Nat}(hA:A%2=0)(h:A*2 ^ t=x):A/2*2 ^ (t+1)=x:=by
 obtain ⟨k,rfl⟩:∃ k,A=2*k:=⟨A/2,by omega⟩
 rw [Nat.mul_div_cancel_left _ (by omega),Nat.pow_succ,←h,Nat.mul_comm (2 ^ t) 2,←Nat.mul_assoc,Nat.mul_comm k 2]
theorem Aga {A B t x y:Nat}(h:A*2 ^ t=x)(h':B*2 ^ t=y):Nat.gcd A B*2 ^ t=Nat.gcd x y:=by
 rw [←h,←h',Nat.gcd_mul_right]
theorem Cp {k:Nat}(h:¬k%2=0):decide (k%2=0)=false:=by simpa using h
theorem Tz (v1 v2:Value)(X Y:Int)(w:World)(hX:nl X≤268435456)(hY:nl Y≤268435456)(hX0:X≠0)(hY0:Y≠0)(h1:IntR w v1 X)(h2:IntR w v2 Y) :
  Calls Tryz.prog 214 #[v1,v2] w fun e w'=>∃ v,e=.returned v∧IntR w' v (Int.gcd X Y:Nat)∧Ext w w':=by
 obtain ⟨s1,rfl,m1⟩:=h1;obtain ⟨s2,rfl,m2⟩:=h2;have hXl:(lim X.natAbs).length≤268435456:=hX;have hYl:(lim Y.natAbs).length≤268435456:=hY;obtain ⟨bx,hbx⟩:=nmE (decide (X<0));obtain ⟨bY,hbY⟩:=nmE (decide (Y<0));rw [←hbx,←hbY];have hxp:0<X.natAbs:=by omega
 have hyp:0<Y.natAbs:=by omega
 have hgcd:Int.gcd X Y=Nat.gcd X.natAbs Y.natAbs:=rfl;rw [hgcd];have lx:=Zp hxp;have ly:=Zp hyp;generalize X.natAbs=x at *;generalize Y.natAbs=y at *
 have px:(((lim x).length:Int)==0)=false:=by
  have:(lim x).length≠0:=fun h=>lx (List.eq_nil_of_length_eq_zero h);rw [beq_eq_false_iff_ne];omega
 have py:(((lim y).length:Int)==0)=false:=by
  have:(lim y).length≠0:=fun h=>ly (List.eq_nil_of_length_eq_zero h);rw [beq_eq_false_iff_ne];omega
 have M1:=mK m1;have M2:=mK m2;obtain ⟨a1,c1,rfl,hc1,r1⟩:=m1;obtain ⟨a2,c2,rfl,hc2,r2⟩:=m2;clear hbx hbY hX0 hY0 hX hY hgcd lx ly r1 r2 hc1 hc2;replace hXl:=mK hXl;replace hYl:=mK hYl;go_enter Tryz.func214,Tryz.ntmps214;go_wp2_with fail;obtain ⟨wb,hwb⟩:=nmE (((w.alloc (.cells #[.bool bx,.slice a1 (lim x).length c1] 52)).alloc (.cells #[.bool bY,.slice a2 (lim y).length c2] 52)).alloc (.cells #[.bool false,.slice none 0 0] 52));have hE:=aLe3 hwb;have hB:=mK (aL32 hwb);rw [←hwb];clear hwb
 have hst:Com1 wb wb (.slice a1 (lim x).length c1) (.slice a2 (lim y).length c2) (.int .i64 0) x y:=
  ⟨x,y,0,rfl,by simp,by simp,M1.out.ext hE,M2.out.ext hE,xR _⟩
 replace hE:=mK hE;replace hst:=mK hst;replace M1:=mK M1;replace M2:=mK M2;go_loopw [5,6,7] (fun v5 v6 t wr=>Com1 wb wr v5 v6 t x y) (fun _ _ t _=>x-(intOf t).toNat)
 case atStart=>exact hst.out
 case round=>
  obtain ⟨A,B,t,rfl,e1,e2,mA,mB,he⟩:=hrel;obtain ⟨hA,hAx,htx⟩:=Qw hxp e1;obtain ⟨hBp,hBy,hty⟩:=Qw hyp e2;have ht:t≤8589934592:=by have:=Ajk hA e1;have:=hXl.out;omega
  have lA:(lim A).length≤268435456:=nT (An hAx) hXl.out;have lB:(lim B).length≤268435456:=nT (An hBy) hYl.out;have EA:=Ip _ A wr hA (by omega) mA;have EB:=Ip _ B wr hBp (by omega) mB;obtain ⟨wo,rfl⟩:=nmE (wr:World);by_cases hev:A%2=0∧B%2=0
  ·rw [decide_eq_true hev.1] at EA
   rw [decide_eq_true hev.2] at EB;have n1:=mK (Th hev.1 e1);have n2:=mK (Th hev.2 e2);have HA:=mK (Io _ A wo (by omega) mA);have HB:=mK (fun W (e:Ext wo W)=>Io _ B W (by omega) (mB.ext e));replace EA:=mK EA;replace EB:=mK EB;replace e1:=mK e1;replace e2:=mK e2;replace hev:=mK hev;replace he:=mK he;clear mA mB;go_wp2_with (first|(refine EA.out.mono ?_;rintro e w' ⟨rfl,rfl⟩)|(refine EB.out.mono ?_;rintro e w' ⟨rfl,rfl⟩));refine HA.out.mono ?_;rintro e w1 ⟨v1,rfl,hm1,he1⟩;have HB2:=mK (HB.out w1 he1);replace he:=mK (he.out.trans he1);replace hm1:=mK hm1;clear HA HB he1;go_wp2_with fail;refine HB2.out.mono ?_;rintro e w2 ⟨v2,rfl,hm2,he2⟩;have st2:=mK (show Com1 wb w2 v1 v2 (.int .i64 ((t+1:Nat):Int)) x y from ⟨A/2,B/2,t+1,rfl,n1.out,n2.out,hm1.out.ext he2,hm2,he.out.trans he2⟩);clear hm1 hm2 he2 HB2;go_wp2_with fail;go_roundw
   case rel=>exact st2.out
   case measure=>simp [intOf]<;>omega
  ·have hodd:=mK (Aib hev)
   have hres:=mK (Aga e1 e2);have st3:=mK (show Com3 wb wo _ _ 268435456 (Nat.gcd A B) (A+B) from ⟨A,B,rfl,hBp,lA,lB,mA,mB,rfl,he⟩);replace e1:=mK e1;replace e2:=mK e2;replace he:=mK he;by_cases hA2:A%2=0
   ·have hB2:¬B%2=0:=fun h=>hev ⟨hA2,h⟩
    rw [decide_eq_true hA2] at EA;rw [Cp hB2] at EB;replace EA:=mK EA;replace EB:=mK EB;replace hA2:=mK hA2;replace hB2:=mK hB2;replace hev:=mK hev;clear mA mB;go_wp2_with (first|(refine EA.out.mono ?_;rintro e w' ⟨rfl,rfl⟩)|(refine EB.out.mono ?_;rintro e w' ⟨rfl,rfl⟩));go_loopg [5,6] (A+B) (fun k v5 v6 wr=>Com3 wb wr v5 v6 268435456 (Nat.gcd A B) k)
    case atStart=>exact st3.out
    case round=>
     clear st3;obtain ⟨C,D,rfl,hD,lC,lD,mC,mD,hg,heC⟩:=hrel;obtain ⟨w2,rfl⟩:=nmE (wr:World);by_cases hC:C=0
     ·subst hC
      rw [Nat.gcd_zero_left] at hg;have hfin:=hres.out;rw [←hg] at hfin;have SS:=mK (Im _ D w2 (by omega) mD);have DD:=mK (fun v W h=>Sh v (D:Int) t W lD ht h);rw [←Int.natCast_mul,hfin] at DD;obtain ⟨ca,cc,rfl,hcc,rC⟩:=mC;rw [Al];simp only [List.length_nil];replace heC:=mK heC;replace hfin:=mK hfin;replace hg:=mK hg;clear rC mD lC hcc;go_wp2_with fail;refine SS.out.mono ?_;rintro e w3 ⟨v3,rfl,h3,he3⟩;replace heC:=mK (heC.out.trans he3);replace h3:=mK h3;clear he3 SS;go_wp2_with fail;refine (DD.out _ _ h3.out).mono ?_;rintro e w4 ⟨v4,rfl,h7,he4⟩;have hBW:=(heC.out.trans he4).blk hB.out;have hEW0:=hE.out.trans (heC.out.trans he4);clear heC he4 h3 DD;obtain ⟨nb,a2,n2,c2,rfl⟩:=h7.shape;have hR:=h7.flat hBW (by simp [Au]) #[.bool nb,.slice a2 n2 c2];have hEW:=mK (hEW0.row (show w.heap.size≤w.heap.size+2 by omega) #[.bool nb,.slice a2 n2 c2]);replace hR:=mK hR;clear h7 hEW0;go_wp2_with (refine wpList_store_row rfl 52 (.tmp 4) (.tmp 59) rfl (w.heap.size+2) #[.bool nb,.slice a2 n2 c2] rfl rfl 52 _ hBW (by kernel_rfl) rfl (by kernel_rfl) ?_);exact bodyPost_ret (results_cell_row rfl _ _ (w.heap.size+2) 52 #[.bool nb,.slice a2 n2 c2] (0,0) _ rfl (setRow_heap _ _ _ _ _ _ hBW) Tryz.underlying52 rfl (by kernel_rfl)) rfl ⟨_,rfl,hR.out,hEW.out⟩
     ·have hCp:0<C:=by omega
      obtain ⟨ca,cc,rfl,hcc,rC⟩:=mC;have mC:MagR w2 (.slice ca (lim C).length cc) (lim C):=⟨ca,cc,rfl,hcc,rC⟩
      have hlc:0<(lim C).length:=by rw [Az (by omega)];simp
      obtain ⟨g,hgg⟩:=nmE (Nat.gcd A B);rw [←hgg] at hg;have hgo:g%2=1:=by rw [hgg];exact hodd.out
      have st4:=mK (show Com4 w2 w2 (.slice ca (lim C).length cc) 268435456 C g D C from ⟨hCp,nR _,lC,mC,hg,xR _⟩);replace hgg:=mK hgg;replace mD:=mK mD;replace heC:=mK heC;replace hC:=mK hC;replace hgo:=mK hgo;replace hg:=mK hg;clear mC rC hcc;go_wp2_with fail;go_loopg [5] C (fun k v5 wr=>Com4 w2 wr v5 268435456 C g D k)
      case atStart=>exact st4.out
      case round=>
       clear st4;obtain ⟨hk0,hkC,lk,mk,hgk,hek⟩:=hrel;have EK:=Ip _ gk wr hk0 (by omega) mk;by_cases h2:gk%2=0
       ·rw [decide_eq_true h2] at EK
        obtain ⟨q1,q2⟩:=Lh hk0 h2;have HK:=mK (Io _ gk wr (by omega) mk);have hgk2:=Lm (B:=D) h2 (by rw [hgk];exact hgo.out);rw [hgk] at hgk2;have lk2:=nT (An (Nat.le_of_lt q2)) lk;replace EK:=mK EK;replace h2:=mK h2;replace hgk:=mK hgk;replace hgk2:=mK hgk2;replace hek:=mK hek;clear mk;go_wp2_with fail;refine EK.out.mono ?_;rintro e w' ⟨rfl,rfl⟩;go_wp2_with fail;refine HK.out.mono ?_;rintro e w' ⟨v,rfl,hm,he'⟩;have st4:=mK (show Com4 w2 w' v 268435456 C g D (gk/2) from ⟨q1,by omega,lk2,hm,hgk2.out,hek.out.trans he'⟩);clear hm he' HK EK;go_wp2_with fail;go_roundg (gk/2)
        case measure=>exact q2
        case rel=>exact st4.out
       ·rw [Cp h2] at EK
        obtain ⟨C2,rfl⟩:=nmE gk;obtain ⟨w3,rfl⟩:=nmE (wr:World);have mD2:=mD.out.ext hek;have st5:=mK (show Com4 w3 w3 u6 268435456 D g C2 D from ⟨hD,nR _,lD,mD2,by rw [Nat.gcd_comm];exact hgk,xR _⟩);have M3:=mK mk;replace EK:=mK EK;replace h2:=mK h2;replace hgk:=mK hgk;replace hek:=mK hek;clear mD2 mk;go_wp2_with fail;refine EK.out.mono ?_;rintro e w' ⟨rfl,rfl⟩;go_wp2_with fail;go_loopg [6] D (fun k v6 wr=>Com4 w3 wr v6 268435456 D g C2 k)
        case atStart=>exact st5.out
        case round=>
         clear st5;obtain ⟨hj0,hjD,lj,mj,hgj,hej⟩:=hrel;have EJ:=Ip _ gk wr hj0 (by omega) mj;by_cases h3:gk%2=0
         ·rw [decide_eq_true h3] at EJ
          obtain ⟨q1,q2⟩:=Lh hj0 h3;have HK:=mK (Io _ gk wr (by omega) mj);have hgk2:=Lm (B:=C2) h3 (by rw [hgj];exact hgo.out);rw [hgj] at hgk2;have lk2:=nT (An (Nat.le_of_lt q2)) lj;replace EJ:=mK EJ;replace h3:=mK h3;replace hgj:=mK hgj;replace hgk2:=mK hgk2;replace hej:=mK hej;clear mj;go_wp2_with fail;refine EJ.out.mono ?_;rintro e w' ⟨rfl,rfl⟩;go_wp2_with fail;refine HK.out.mono ?_;rintro e w' ⟨v,rfl,hm,he'⟩;have st5:=mK (show Com4 w3 w' v 268435456 D g C2 (gk/2) from ⟨q1,by omega,lk2,hm,hgk2.out,hej.out.trans he'⟩);clear hm he' HK EJ;go_wp2_with fail;go_roundg (gk/2)
          case measure=>exact q2
          case rel=>exact st5.out
         ·rw [Cp h3] at EJ
          obtain ⟨D2,rfl⟩:=nmE gk;have mC3:=M3.out.ext hej;have CP:=mK (Aey _ _ C2 D2 wr (by omega) (by omega) mC3 mj);have hlt:=Aar (X:=C2) (R:=D2);have hcb:=Eh (X:=C2) (R:=D2);generalize ((C2:Int)-(D2:Int)).sign=S at *;have heW:=mK ((heC.out.trans hek.out).trans hej);replace EJ:=mK EJ;replace h3:=mK h3;replace hlt:=mK hlt;replace hgj:=mK hgj;replace hej:=mK hej;replace mC3:=mK mC3;replace mj:=mK mj;go_wp2_with fail;refine EJ.out.mono ?_;rintro e w' ⟨rfl,rfl⟩;go_wp2_with fail;refine CP.out.mono ?_;rintro e w4 ⟨rfl,he4⟩;clear EJ CP;by_cases hS:S<0
          ·have hlt2:=hlt.out.1 hS
           have SB:=mK (Tv _ _ D2 C2 w4 (by omega) (by omega) (mj.out.ext he4) (mC3.out.ext he4));have mC4:=mK (mC3.out.ext he4);replace heW:=mK (heW.out.trans he4);clear he4;replace hlt2:=mK hlt2;go_wp2_with fail;refine SB.out.mono ?_;rintro e w5 ⟨v5,rfl,hm5,he5⟩;have st6:=mK (show Com3 wb w5 v5 _ 268435456 (Nat.gcd A B) (D2-C2+C2) from ⟨D2-C2,C2,rfl,hk0,nT (An (Nat.sub_le _ _)) lj,lk,hm5,mC4.out.ext he5,by rw [Nat.gcd_sub_self_left (Nat.le_of_lt hlt2.out),hgj.out,hgg.out],heW.out.trans he5⟩);clear hm5 he5 SB mC4;go_wp2_with fail;go_roundg (D2-C2+C2)
           case measure=>have:=hlt2.out;omega
           case rel=>exact st6.out
          ·have hge2:D2≤C2:=by
            have:=hlt.out;omega
           have SB:=mK (Tv _ _ C2 D2 w4 (by omega) hge2 (mC3.out.ext he4) (mj.out.ext he4));have mC4:=mK (mj.out.ext he4);replace heW:=mK (heW.out.trans he4);clear he4;replace hge2:=mK hge2;go_wp2_with fail;refine SB.out.mono ?_;rintro e w5 ⟨v5,rfl,hm5,he5⟩;have st6:=mK (show Com3 wb w5 v5 _ 268435456 (Nat.gcd A B) (C2-D2+D2) from ⟨C2-D2,D2,rfl,hj0,nT (An (Nat.sub_le _ _)) lk,lj,hm5,mC4.out.ext he5,by rw [Nat.gcd_sub_self_left hge2.out,Nat.gcd_comm,hgj.out,hgg.out],heW.out.trans he5⟩);clear hm5 he5 SB mC4;go_wp2_with fail;go_roundg (C2-D2+D2)
           case measure=>have:=hge2.out;omega
           case rel=>exact st6.out
   ·rw [Cp hA2] at EA
    replace EA:=mK EA;replace EB:=mK EB;replace hA2:=mK hA2;replace hev:=mK hev;clear mA mB;go_wp2_with (first|(refine EA.out.mono ?_;rintro e w' ⟨rfl,rfl⟩));go_loopg [5,6] (A+B) (fun k v5 v6 wr=>Com3 wb wr v5 v6 268435456 (Nat.gcd A B) k)
    case atStart=>exact st3.out
    case round=>
     clear st3;obtain ⟨C,D,rfl,hD,lC,lD,mC,mD,hg,heC⟩:=hrel;obtain ⟨w2,rfl⟩:=nmE (wr:World);by_cases hC:C=0
     ·subst hC
      rw [Nat.gcd_zero_left] at hg;have hfin:=hres.out;rw [←hg] at hfin;have SS:=mK (Im _ D w2 (by omega) mD);have DD:=mK (fun v W h=>Sh v (D:Int) t W lD ht h);rw [←Int.natCast_mul,hfin] at DD;obtain ⟨ca,cc,rfl,hcc,rC⟩:=mC;rw [Al];simp only [List.length_nil];replace heC:=mK heC;replace hfin:=mK hfin;replace hg:=mK hg;clear rC mD lC hcc;go_wp2_with fail;refine SS.out.mono ?_;rintro e w3 ⟨v3,rfl,h3,he3⟩;replace heC:=mK (heC.out.trans he3);replace h3:=mK h3;clear he3 SS;go_wp2_with fail;refine (DD.out _ _ h3.out).mono ?_;rintro e w4 ⟨v4,rfl,h7,he4⟩;have hBW:=(heC.out.trans he4).blk hB.out;have hEW0:=hE.out.trans (heC.out.trans he4);clear heC he4 h3 DD;obtain ⟨nb,a2,n2,c2,rfl⟩:=h7.shape;have hR:=h7.flat hBW (by simp [Au]) #[.bool nb,.slice a2 n2 c2];have hEW:=mK (hEW0.row (show w.heap.size≤w.heap.size+2 by omega) #[.bool nb,.slice a2 n2 c2]);replace hR:=mK hR;clear h7 hEW0;go_wp2_with (refine wpList_store_row rfl 52 (.tmp 4) (.tmp 59) rfl (w.heap.size+2) #[.bool nb,.slice a2 n2 c2] rfl rfl 52 _ hBW (by kernel_rfl) rfl (by kernel_rfl) ?_);exact bodyPost_ret (results_cell_row rfl _ _ (w.heap.size+2) 52 #[.bool nb,.slice a2 n2 c2] (0,0) _ rfl (setRow_heap _ _ _ _ _ _ hBW) Tryz.underlying52 rfl (by kernel_rfl)) rfl ⟨_,rfl,hR.out,hEW.out⟩
     ·have hCp:0<C:=by omega
      obtain ⟨ca,cc,rfl,hcc,rC⟩:=mC;have mC:MagR w2 (.slice ca (lim C).length cc) (lim C):=⟨ca,cc,rfl,hcc,rC⟩
      have hlc:0<(lim C).length:=by rw [Az (by omega)];simp
      obtain ⟨g,hgg⟩:=nmE (Nat.gcd A B);rw [←hgg] at hg;have hgo:g%2=1:=by rw [hgg];exact hodd.out
      have st4:=mK (show Com4 w2 w2 (.slice ca (lim C).length cc) 268435456 C g D C from ⟨hCp,nR _,lC,mC,hg,xR _⟩);replace hgg:=mK hgg;replace mD:=mK mD;replace heC:=mK heC;replace hC:=mK hC;replace hgo:=mK hgo;replace hg:=mK hg;clear mC rC hcc;go_wp2_with fail;go_loopg [5] C (fun k v5 wr=>Com4 w2 wr v5 268435456 C g D k)
      case atStart=>exact st4.out
      case round=>
       clear st4;obtain ⟨hk0,hkC,lk,mk,hgk,hek⟩:=hrel;have EK:=Ip _ gk wr hk0 (by omega) mk;by_cases h2:gk%2=0
       ·rw [decide_eq_true h2] at EK
        obtain ⟨q1,q2⟩:=Lh hk0 h2;have HK:=mK (Io _ gk wr (by omega) mk);have hgk2:=Lm (B:=D) h2 (by rw [hgk];exact hgo.out);rw [hgk] at hgk2;have lk2:=nT (An (Nat.le_of_lt q2)) lk;replace EK:=mK EK;replace h2:=mK h2;replace hgk:=mK hgk;replace hgk2:=mK hgk2;replace hek:=mK hek;clear mk;go_wp2_with fail;refine EK.out.mono ?_;rintro e w' ⟨rfl,rfl⟩;go_wp2_with fail;refine HK.out.mono ?_;rintro e w' ⟨v,rfl,hm,he'⟩;have st4:=mK (show Com4 w2 w' v 268435456 C g D (gk/2) from ⟨q1,by omega,lk2,hm,hgk2.out,hek.out.trans he'⟩);clear hm he' HK EK;go_wp2_with fail;go_roundg (gk/2)
        case measure=>exact q2
        case rel=>exact st4.out
       ·rw [Cp h2] at EK
        obtain ⟨C2,rfl⟩:=nmE gk;obtain ⟨w3,rfl⟩:=nmE (wr:World);have mD2:=mD.out.ext hek;have st5:=mK (show Com4 w3 w3 u6 268435456 D g C2 D from ⟨hD,nR _,lD,mD2,by rw [Nat.gcd_comm];exact hgk,xR _⟩);have M3:=mK mk;replace EK:=mK EK;replace h2:=mK h2;replace hgk:=mK hgk;replace hek:=mK hek;clear mD2 mk;go_wp2_with fail;refine EK.out.mono ?_;rintro e w' ⟨rfl,rfl⟩;go_wp2_with fail;go_loopg [6] D (fun k v6 wr=>Com4 w3 wr v6 268435456 D g C2 k)
        case atStart=>exact st5.out
        case round=>
         clear st5;obtain ⟨hj0,hjD,lj,mj,hgj,hej⟩:=hrel;have EJ:=Ip _ gk wr hj0 (by omega) mj;by_cases h3:gk%2=0
         ·rw [decide_eq_true h3] at EJ
          obtain ⟨q1,q2⟩:=Lh hj0 h3;have HK:=mK (Io _ gk wr (by omega) mj);have hgk2:=Lm (B:=C2) h3 (by rw [hgj];exact hgo.out);rw [hgj] at hgk2;have lk2:=nT (An (Nat.le_of_lt q2)) lj;replace EJ:=mK EJ;replace h3:=mK h3;replace hgj:=mK hgj;replace hgk2:=mK hgk2;replace hej:=mK hej;clear mj;go_wp2_with fail;refine EJ.out.mono ?_;rintro e w' ⟨rfl,rfl⟩;go_wp2_with fail;refine HK.out.mono ?_;rintro e w' ⟨v,rfl,hm,he'⟩;have st5:=mK (show Com4 w3 w' v 268435456 D g C2 (gk/2) from ⟨q1,by omega,lk2,hm,hgk2.out,hej.out.trans he'⟩);clear hm he' HK EJ;go_wp2_with fail;go_roundg (gk/2)
          case measure=>exact q2
          case rel=>exact st5.out
         ·rw [Cp h3] at EJ
          obtain ⟨D2,rfl⟩:=nmE gk;have mC3:=M3.out.ext hej;have CP:=mK (Aey _ _ C2 D2 wr (by omega) (by omega) mC3 mj);have hlt:=Aar (X:=C2) (R:=D2);have hcb:=Eh (X:=C2) (R:=D2);generalize ((C2:Int)-(D2:Int)).sign=S at *;have heW:=mK ((heC.out.trans hek.out).trans hej);replace EJ:=mK EJ;replace h3:=mK h3;replace hlt:=mK hlt;replace hgj:=mK hgj;replace hej:=mK hej;replace mC3:=mK mC3;replace mj:=mK mj;go_wp2_with fail;refine EJ.out.mono ?_;rintro e w' ⟨rfl,rfl⟩;go_wp2_with fail;refine CP.out.mono ?_;rintro e w4 ⟨rfl,he4⟩;clear EJ CP;by_cases hS:S<0
          ·have hlt2:=hlt.out.1 hS
           have SB:=mK (Tv _ _ D2 C2 w4 (by omega) (by omega) (mj.out.ext he4) (mC3.out.ext he4));have mC4:=mK (mC3.out.ext he4);replace heW:=mK (heW.out.trans he4);clear he4;replace hlt2:=mK hlt2;go_wp2_with fail;refine SB.out.mono ?_;rintro e w5 ⟨v5,rfl,hm5,he5⟩;have st6:=mK (show Com3 wb w5 v5 _ 268435456 (Nat.gcd A B) (D2-C2+C2) from ⟨D2-C2,C2,rfl,hk0,nT (An (Nat.sub_le _ _)) lj,lk,hm5,mC4.out.ext he5,by rw [Nat.gcd_sub_self_left (Nat.le_of_lt hlt2.out),hgj.out,hgg.out],heW.out.trans he5⟩);clear hm5 he5 SB mC4;go_wp2_with fail;go_roundg (D2-C2+C2)
           case measure=>have:=hlt2.out;omega
           case rel=>exact st6.out
          ·have hge2:D2≤C2:=by
            have:=hlt.out;omega
           have SB:=mK (Tv _ _ C2 D2 w4 (by omega) hge2 (mC3.out.ext he4) (mj.out.ext he4));have mC4:=mK (mj.out.ext he4);replace heW:=mK (heW.out.trans he4);clear he4;replace hge2:=mK hge2;go_wp2_with fail;refine SB.out.mono ?_;rintro e w5 ⟨v5,rfl,hm5,he5⟩;have st6:=mK (show Com3 wb w5 v5 _ 268435456 (Nat.gcd A B) (C2-D2+D2) from ⟨C2-D2,D2,rfl,hj0,nT (An (Nat.sub_le _ _)) lk,lj,hm5,mC4.out.ext he5,by rw [Nat.gcd_sub_self_left hge2.out,Nat.gcd_comm,hgj.out,hgg.out],heW.out.trans he5⟩);clear hm5 he5 SB mC4;go_wp2_with fail;go_roundg (C2-D2+D2)
           case measure=>have:=hge2.out;omega
           case rel=>exact st6.out
theorem Hh (v1 v2:Value)(X Y:Int)(w:World)(hX:nl X≤268435456)(hY:nl Y≤268435456)(h1:IntR w v1 X)(h2:IntR w v2 Y) :
  Calls Tryz.prog 214 #[v1,v2] w fun e w'=>∃ v,e=.returned v∧IntR w' v (Int.gcd X Y:Nat)∧Ext w w':=by
 by_cases h:X=0∨Y=0
 ·exact Pn v1 v2 X Y w hX hY h h1 h2
 ·exact Tz v1 v2 X Y w hX hY (fun e=>h (.inl e)) (fun e=>h (.inr e)) h1 h2
theorem Xg (X Y:Int):Int.gcd Y (X.tmod Y)=Int.gcd X Y:=by
 unfold Int.gcd;rw [Int.natAbs_tmod,Nat.gcd_comm Y.natAbs,←Nat.gcd_rec,Nat.gcd_comm]
def AnyB (_:World)(v:Value):Prop:=∃ b,v=.bool b
def Yj (X:Int)(_:World)(v:Value):Prop:=∃ k,v=.int .i64 k∧Ve k X
theorem Ag0 {ss:List FSpec}(h:StableAll Ext ss):StableAll Ext (.pred AnyB::ss):=⟨fun _ _ _ _ h=>h,h⟩
theorem Vm {ss:List FSpec}(X:Int)(h:StableAll Ext ss):StableAll Ext (.pred (Yj X)::ss):=⟨fun _ _ _ _ h=>h,h⟩
theorem Abd (v1 v2:Value)(X Y:Int)(w:World)(hX:nl X≤268435456)(hY:nl Y≤268435456)(h1:IntR w v1 X)(h2:IntR w v2 Y) :
  Calls Tryz.prog 172 #[v1,v2] w fun e w'=>∃ v,e=.returned v∧IntR w' v (Int.gcd X Y:Nat)∧Ext w w':=by
 have H1:=mK h1;have H2:=mK h2;obtain ⟨bx,a1,n1,c1,rfl⟩:=h1.shape;obtain ⟨bY,a2,n2,c2,rfl⟩:=h2.shape;have B1:=mK (fun W (e:Ext w W)=>Oi _ X W (H1.out.ext e) (by omega));have B2:=mK (fun W (e:Ext w W)=>Oi _ Y W (H2.out.ext e) (by omega));clear h1 h2;obtain ⟨G,hG⟩:=nmE (Int.gcd X Y);rw [←hG];replace hG:=mK hG;go_enter Tryz.func172,Tryz.ntmps172;go_wp2_with fail;obtain ⟨wb,hwb⟩:=nmE (((w.alloc (.cells #[.bool bx,.slice a1 n1 c1] 52)).alloc (.cells #[.bool bY,.slice a2 n2 c2] 52)).alloc (.cells #[.bool false,.slice none 0 0] 52));have hE:=mK (aLe3 hwb);have hB0:=aL30 hwb;have hB1:=aL31 hwb;have hB2:=mK (aL32 hwb);have h00:∀ W,Ext wb W→W.cell? ⟨w.heap.size,0,none⟩=some (.bool bx):=fun W e=>e.cell (Ac hB0).1;have h01:∀ W,Ext wb W→W.cell? ⟨w.heap.size,1,none⟩=some (.slice a1 n1 c1):=fun W e=>e.cell (Ac hB0).2;have h10:∀ W,Ext wb W→W.cell? ⟨w.heap.size+1,0,none⟩=some (.bool bY):=fun W e=>e.cell (Ac hB1).1;have h11:∀ W,Ext wb W→W.cell? ⟨w.heap.size+1,1,none⟩=some (.slice a2 n2 c2):=fun W e=>e.cell (Ac hB1).2;rw [←hwb];clear hwb;replace hB0:=mK hB0;replace hB1:=mK hB1;apply Ad [.val _,.pred (Yj X),.val _,.pred (Yj Y),.pred AnyB] (by kernel_rfl) (stable_vals _ (Vm _ (stable_vals _ (Vm _ (Ag0 trivial)))));refine ⟨fun W hW _=>by go_simp;exact ⟨xR _,rfl⟩,?_⟩;refine ⟨fun W hW _=>?g1,fun v101=>?_⟩
 case g1=>
  go_simp;refine (B1.out W (hE.out.trans hW)).mono ?_;rintro e w' ⟨k,rfl,h1,h2⟩;exact ⟨_,rfl,h2,⟨k,rfl,h1⟩⟩
 refine ⟨fun W hW _=>by go_simp;exact ⟨xR _,rfl⟩,?_⟩;refine ⟨fun W hW _=>?g3,fun v103=>?_⟩
 case g3=>
  go_simp;refine (B2.out W (hE.out.trans hW)).mono ?_;rintro e w' ⟨k,rfl,h1,h2⟩;exact ⟨_,rfl,h2,⟨k,rfl,h1⟩⟩
 refine ⟨fun W hW hF=>?g4,fun v104=>fun W hW hF=>?fin⟩
 case g4=>
  have d1:Yj X W v101:=hF.2.1 (by kernel_rfl);have d2:Yj Y W v103:=hF.1 (by kernel_rfl);obtain ⟨k1,rfl,-⟩:=d1;obtain ⟨k2,rfl,-⟩:=d2;clear hF;go_simp;exact ⟨xR _,_,rfl⟩
 case fin=>
  have d4:AnyB W v104:=hF.1 rfl;obtain ⟨b,rfl⟩:=d4;clear hF h00 h01 h10 h11 B1 B2;have b0:=hW.blk hB0.out;have b1:=hW.blk hB1.out;have b2:=hW.blk hB2.out;have iX:=H1.out.ext (hE.out.trans hW);have iY:=H2.out.ext (hE.out.trans hW);have hEW:=hE.out.trans hW;clear hB0 hB1 hB2 H1 H2 hW hE;cases b with
  | false=>
   have hgc:=mK (show Int.gcd X Y=G from hG.out.symm);go_simp;have sY:=mK (Fw _ (Y) W iY (by omega));have kc0:=Ac b0;have kc1:=Ac b1;replace b0:=mK b0;replace b1:=mK b1;replace b2:=mK b2;replace iX:=mK iX;replace iY:=mK iY;replace hEW:=mK hEW;go_wp2_with fail;refine sY.out.mono ?_;rintro e w3 ⟨rfl,he3⟩;have d0:=he3.blk b0.out;have d1:=he3.blk b1.out;replace b2:=mK (he3.blk b2.out);replace iX:=mK (iX.out.ext he3);replace iY:=mK (iY.out.ext he3);replace hEW:=mK (hEW.out.trans he3);clear sY kc0 kc1 b0 b1 he3;have kc0:=Ac d0;have kc1:=Ac d1;replace d0:=mK d0;replace d1:=mK d1;by_cases hz:(Y)=0
   ·have hs:(Y).sign=0:=by rw [hz];rfl
    rw [hs];have CM:=mK (Hh _ _ (X) (Y) w3 hX hY iX.out iY.out);rw [hgc.out] at CM;replace hz:=mK hz;clear hs iX iY;go_wp2_with fail;refine CM.out.mono ?_;rintro e w4 ⟨v,rfl,h7,he4⟩;have hBW:=he4.blk b2.out;have hEW0:=hEW.out.trans he4;clear he4 CM hEW;obtain ⟨nb,a2,n2,c2,rfl⟩:=h7.shape;have hR:=h7.flat hBW (by simp [Au]) #[.bool nb,.slice a2 n2 c2];have hEW:=mK (hEW0.row (show w.heap.size≤w.heap.size+2 by omega) #[.bool nb,.slice a2 n2 c2]);replace hR:=mK hR;clear h7 hEW0;go_wp2_with (refine wpList_store_row rfl 52 (.tmp 4) (.tmp 19) rfl (w.heap.size+2) #[.bool nb,.slice a2 n2 c2] rfl rfl 52 _ hBW (by kernel_rfl) rfl (by kernel_rfl) ?_);exact bodyPost_ret (results_cell_row rfl _ _ (w.heap.size+2) 52 #[.bool nb,.slice a2 n2 c2] (0,0) _ rfl (setRow_heap _ _ _ _ _ _ hBW) Tryz.underlying52 rfl (by kernel_rfl)) rfl ⟨_,rfl,hR.out,hEW.out⟩
   ·have hs:(Y).sign≠0:=by
     rw [Ne,Int.sign_eq_zero_iff_zero];exact hz
    have hsb:(((Y).sign)==0)=false:=by rw [beq_eq_false_iff_ne];exact hs
    have hrs:=Gu (Y);have DV:=mK (Abc _ _ (X) (Y) w3 (nT hX (by decide)) (nT hY (by decide)) hz iX.out iY.out)
    have hnm:nl ((X).tmod (Y))≤268435456:=by
     refine nT (An ?_) hX;rw [Int.natAbs_tmod];exact Nat.mod_le _ _
    have hgt:=Xg (X) (Y);rw [hgc.out] at hgt;generalize (Y).sign=sy at *;replace hz:=mK hz;replace hs:=mK hs;replace hgt:=mK hgt;go_wp2_with fail;refine DV.out.mono ?_;rintro e w4 ⟨q,r,rfl,hq,hr,he4⟩;obtain ⟨q1,q2,q3,q4,rfl⟩:=hq.shape;obtain ⟨r1,r2,r3,r4,rfl⟩:=hr.shape;have e0:=he4.blk d0.out;have e1:=he4.blk d1.out;replace b2:=mK (he4.blk b2.out);replace iY:=mK (iY.out.ext he4);replace hEW:=mK (hEW.out.trans he4);replace hr:=mK hr;clear hq he4 DV kc0 kc1 d0 d1 iX;have kc0:=fun o1 o2=>(((xR w4).al o1).al o2).cell (Ac e1).1;have kc1:=fun o1 o2=>(((xR w4).al o1).al o2).cell (Ac e1).2;have BT:=mK (fun W (e:Ext w4 W)=>Oi _ (Y) W (iY.out.ext e) (by omega));replace e0:=mK e0;replace e1:=mK e1;go_wp2_with fail;refine (BT.out _ (((xR w4).al _).al _)).mono ?_;rintro e w6 ⟨k,rfl,hk,he6⟩;have b6:=he6.blk (show ((w4.alloc (.cells #[.bool q1,.slice q2 q3 q4] 52)).alloc (.cells #[.bool r1,.slice r2 r3 r4] 52)).heap[w4.heap.size+1]? = some (.cells #[.bool r1,.slice r2 r3 r4] 52) from Br _ _ _ (by simp));have he46:=((((xR w4).al _).al _).trans he6)
    have e0:=mK (he46.blk e0.out);have e1:=he46.blk e1.out;replace b2:=mK (he46.blk b2.out);replace iY:=mK (iY.out.ext he46);replace hr:=mK (hr.out.ext he46);replace hEW:=mK (hEW.out.trans he46);clear BT kc0 kc1 he6 he46;have kc1:=Ac e1;have kc6:=Ac b6;replace e1:=mK e1;replace b6:=mK b6;by_cases hk1:k=1
    ·have hone:=hk.2.2 hk1
     have hG1:G=1:=by
      have h:=hgc.out;unfold Int.gcd at h;rw [hone,Nat.gcd_one_right] at h;exact h.symm
     subst hk1;have OF:=mK (No 1 w6 (by omega) (by omega));replace hG1:=mK hG1;replace hone:=mK hone;clear hr iY kc1 kc6 hk;go_wp2_with fail;refine OF.out.mono ?_;rintro e w7 ⟨v,rfl,h7,he7⟩;have hBW:=he7.blk b2.out;have hEW0:=hEW.out.trans he7;have h7:IntR w7 v (G:Int):=by rw [hG1.out];exact h7
     clear he7 OF hEW;obtain ⟨nb,a2,n2,c2,rfl⟩:=h7.shape;have hR:=h7.flat hBW (by simp [Au]) #[.bool nb,.slice a2 n2 c2];have hEW:=mK (hEW0.row (show w.heap.size≤w.heap.size+2 by omega) #[.bool nb,.slice a2 n2 c2]);replace hR:=mK hR;clear h7 hEW0;go_wp2_with (refine wpList_store_row rfl 52 (.tmp 4) (.tmp 29) rfl (w.heap.size+2) #[.bool nb,.slice a2 n2 c2] rfl rfl 52 _ hBW (by kernel_rfl) rfl (by kernel_rfl) ?_);exact bodyPost_ret (results_cell_row rfl _ _ (w.heap.size+2) 52 #[.bool nb,.slice a2 n2 c2] (0,0) _ rfl (setRow_heap _ _ _ _ _ _ hBW) Tryz.underlying52 rfl (by kernel_rfl)) rfl ⟨_,rfl,hR.out,hEW.out⟩
    ·have hkb:(k==1)=false:=by rw [beq_eq_false_iff_ne];exact hk1
     have hkr:=hk.1;have hkr2:=hk.2.1;have CM:=mK (Hh _ _ (Y) ((X).tmod (Y)) w6 hY hnm iY.out hr.out);rw [hgt.out] at CM;replace hk:=mK hk;replace hk1:=mK hk1;clear hr iY;go_wp2_with fail;refine CM.out.mono ?_;rintro e w7 ⟨v,rfl,h7,he7⟩;have hBW:=he7.blk b2.out;have hEW0:=hEW.out.trans he7;clear he7 CM hEW;obtain ⟨nb,a2,n2,c2,rfl⟩:=h7.shape;have hR:=h7.flat hBW (by simp [Au]) #[.bool nb,.slice a2 n2 c2];have hEW:=mK (hEW0.row (show w.heap.size≤w.heap.size+2 by omega) #[.bool nb,.slice a2 n2 c2]);replace hR:=mK hR;clear h7 hEW0;go_wp2_with (refine wpList_store_row rfl 52 (.tmp 4) (.tmp 32) rfl (w.heap.size+2) #[.bool nb,.slice a2 n2 c2] rfl rfl 52 _ hBW (by kernel_rfl) rfl (by kernel_rfl) ?_);exact bodyPost_ret (results_cell_row rfl _ _ (w.heap.size+2) 52 #[.bool nb,.slice a2 n2 c2] (0,0) _ rfl (setRow_heap _ _ _ _ _ _ hBW) Tryz.underlying52 rfl (by kernel_rfl)) rfl ⟨_,rfl,hR.out,hEW.out⟩
  | true=>
   have hgc:=mK (show Int.gcd Y X=G from (Int.gcd_comm Y X).trans hG.out.symm);go_simp;obtain ⟨W2,hW2⟩:=nmE ((W.setRow w.heap.size #[.bool bY,.slice a2 n2 c2]).setRow (w.heap.size+1) #[.bool bx,.slice a1 n1 c1]);have hrows:=Dq W w.heap.size (w.heap.size+1) #[.bool bY,.slice a2 n2 c2] #[.bool bx,.slice a1 n1 c1] _ _ _ (by omega) b0 b1
   have g2:W2.heap[w.heap.size+2]? = some (.cells #[.bool false,.slice none 0 0] 52 (0,0)):=by
    rw [hW2,setRow_other _ _ _ _ (by omega),setRow_other _ _ _ _ (by omega)];exact b2
   have jX:=(iX.flat b0 (by simp [Au]) #[.bool bY,.slice a2 n2 c2]).flat hrows.2.2 (by simp [Au]) #[.bool bx,.slice a1 n1 c1];have jY:=(iY.flat b0 (by simp [Au]) #[.bool bY,.slice a2 n2 c2]).flat hrows.2.2 (by simp [Au]) #[.bool bx,.slice a1 n1 c1];have hEW2:=(hEW.row (show w.heap.size≤w.heap.size by omega) #[.bool bY,.slice a2 n2 c2]).row (show w.heap.size≤w.heap.size+1 by omega) #[.bool bx,.slice a1 n1 c1];have k0:=mK b0;have k2:=mK hrows.2.2;have u0:=Ac b0;have u1:=Ac b1;have u3:=Ac hrows.2.1;have hr1:=hrows.1;have hr2:=hrows.2.1;rw [←hW2] at hr1 hr2 jX jY hEW2;clear hrows iX iY hEW b0 b1 b2;have iX:=jY;have iY:=jX;have hEW:=hEW2;have b0:=hr1;have b1:=hr2;have b2:=g2;clear jX jY hEW2 hr1 hr2 g2;replace hW2:=mK hW2;have sY:=mK (Fw _ (X) W2 iY (by omega));have kc0:=Ac b0;have kc1:=Ac b1;replace b0:=mK b0;replace b1:=mK b1;replace b2:=mK b2;replace iX:=mK iX;replace iY:=mK iY;replace hEW:=mK hEW
   go_wp2_with (first
    | (refine wpList_store_row rfl 52 (.tmp 2) (.tmp 12) rfl w.heap.size #[.bool bY,.slice a2 n2 c2] rfl rfl 52 _ k0.out (by kernel_rfl) rfl (by kernel_rfl) ?_)
    | (refine wpList_store_row rfl 52 (.tmp 3) (.tmp 13) rfl (w.heap.size+1) #[.bool bx,.slice a1 n1 c1] rfl rfl 52 _ k2.out (by kernel_rfl) rfl (by kernel_rfl) ?_))
   rw [←hW2.out];clear u0 u1 u3 k0 k2 hW2;refine sY.out.mono ?_;rintro e w3 ⟨rfl,he3⟩;have d0:=he3.blk b0.out;have d1:=he3.blk b1.out;replace b2:=mK (he3.blk b2.out);replace iX:=mK (iX.out.ext he3);replace iY:=mK (iY.out.ext he3);replace hEW:=mK (hEW.out.trans he3);clear sY kc0 kc1 b0 b1 he3;have kc0:=Ac d0;have kc1:=Ac d1;replace d0:=mK d0;replace d1:=mK d1;by_cases hz:(X)=0
   ·have hs:(X).sign=0:=by rw [hz];rfl
    rw [hs];have CM:=mK (Hh _ _ (Y) (X) w3 hY hX iX.out iY.out);rw [hgc.out] at CM;replace hz:=mK hz;clear hs iX iY;go_wp2_with fail;refine CM.out.mono ?_;rintro e w4 ⟨v,rfl,h7,he4⟩;have hBW:=he4.blk b2.out;have hEW0:=hEW.out.trans he4;clear he4 CM hEW;obtain ⟨nb,a2,n2,c2,rfl⟩:=h7.shape;have hR:=h7.flat hBW (by simp [Au]) #[.bool nb,.slice a2 n2 c2];have hEW:=mK (hEW0.row (show w.heap.size≤w.heap.size+2 by omega) #[.bool nb,.slice a2 n2 c2]);replace hR:=mK hR;clear h7 hEW0;go_wp2_with (refine wpList_store_row rfl 52 (.tmp 4) (.tmp 19) rfl (w.heap.size+2) #[.bool nb,.slice a2 n2 c2] rfl rfl 52 _ hBW (by kernel_rfl) rfl (by kernel_rfl) ?_);exact bodyPost_ret (results_cell_row rfl _ _ (w.heap.size+2) 52 #[.bool nb,.slice a2 n2 c2] (0,0) _ rfl (setRow_heap _ _ _ _ _ _ hBW) Tryz.underlying52 rfl (by kernel_rfl)) rfl ⟨_,rfl,hR.out,hEW.out⟩
   ·have hs:(X).sign≠0:=by
     rw [Ne,Int.sign_eq_zero_iff_zero];exact hz
    have hsb:(((X).sign)==0)=false:=by rw [beq_eq_false_iff_ne];exact hs
    have hrs:=Gu (X);have DV:=mK (Abc _ _ (Y) (X) w3 (nT hY (by decide)) (nT hX (by decide)) hz iX.out iY.out)
    have hnm:nl ((Y).tmod (X))≤268435456:=by
     refine nT (An ?_) hY;rw [Int.natAbs_tmod];exact Nat.mod_le _ _
    have hgt:=Xg (Y) (X);rw [hgc.out] at hgt;generalize (X).sign=sy at *;replace hz:=mK hz;replace hs:=mK hs;replace hgt:=mK hgt;go_wp2_with fail;refine DV.out.mono ?_;rintro e w4 ⟨q,r,rfl,hq,hr,he4⟩;obtain ⟨q1,q2,q3,q4,rfl⟩:=hq.shape;obtain ⟨r1,r2,r3,r4,rfl⟩:=hr.shape;have e0:=he4.blk d0.out;have e1:=he4.blk d1.out;replace b2:=mK (he4.blk b2.out);replace iY:=mK (iY.out.ext he4);replace hEW:=mK (hEW.out.trans he4);replace hr:=mK hr;clear hq he4 DV kc0 kc1 d0 d1 iX;have kc0:=fun o1 o2=>(((xR w4).al o1).al o2).cell (Ac e1).1;have kc1:=fun o1 o2=>(((xR w4).al o1).al o2).cell (Ac e1).2;have BT:=mK (fun W (e:Ext w4 W)=>Oi _ (X) W (iY.out.ext e) (by omega));replace e0:=mK e0;replace e1:=mK e1;go_wp2_with fail;refine (BT.out _ (((xR w4).al _).al _)).mono ?_;rintro e w6 ⟨k,rfl,hk,he6⟩;have b6:=he6.blk (show ((w4.alloc (.cells #[.bool q1,.slice q2 q3 q4] 52)).alloc (.cells #[.bool r1,.slice r2 r3 r4] 52)).heap[w4.heap.size+1]? = some (.cells #[.bool r1,.slice r2 r3 r4] 52) from Br _ _ _ (by simp));have he46:=((((xR w4).al _).al _).trans he6)
    have e0:=mK (he46.blk e0.out);have e1:=he46.blk e1.out;replace b2:=mK (he46.blk b2.out);replace iY:=mK (iY.out.ext he46);replace hr:=mK (hr.out.ext he46);replace hEW:=mK (hEW.out.trans he46);clear BT kc0 kc1 he6 he46;have kc1:=Ac e1;have kc6:=Ac b6;replace e1:=mK e1;replace b6:=mK b6;by_cases hk1:k=1
    ·have hone:=hk.2.2 hk1
     have hG1:G=1:=by
      have h:=hgc.out;unfold Int.gcd at h;rw [hone,Nat.gcd_one_right] at h;exact h.symm
     subst hk1;have OF:=mK (No 1 w6 (by omega) (by omega));replace hG1:=mK hG1;replace hone:=mK hone;clear hr iY kc1 kc6 hk;go_wp2_with fail;refine OF.out.mono ?_;rintro e w7 ⟨v,rfl,h7,he7⟩;have hBW:=he7.blk b2.out;have hEW0:=hEW.out.trans he7;have h7:IntR w7 v (G:Int):=by rw [hG1.out];exact h7
     clear he7 OF hEW;obtain ⟨nb,a2,n2,c2,rfl⟩:=h7.shape;have hR:=h7.flat hBW (by simp [Au]) #[.bool nb,.slice a2 n2 c2];have hEW:=mK (hEW0.row (show w.heap.size≤w.heap.size+2 by omega) #[.bool nb,.slice a2 n2 c2]);replace hR:=mK hR;clear h7 hEW0;go_wp2_with (refine wpList_store_row rfl 52 (.tmp 4) (.tmp 29) rfl (w.heap.size+2) #[.bool nb,.slice a2 n2 c2] rfl rfl 52 _ hBW (by kernel_rfl) rfl (by kernel_rfl) ?_);exact bodyPost_ret (results_cell_row rfl _ _ (w.heap.size+2) 52 #[.bool nb,.slice a2 n2 c2] (0,0) _ rfl (setRow_heap _ _ _ _ _ _ hBW) Tryz.underlying52 rfl (by kernel_rfl)) rfl ⟨_,rfl,hR.out,hEW.out⟩
    ·have hkb:(k==1)=false:=by rw [beq_eq_false_iff_ne];exact hk1
     have hkr:=hk.1;have hkr2:=hk.2.1;have CM:=mK (Hh _ _ (X) ((Y).tmod (X)) w6 hX hnm iY.out hr.out);rw [hgt.out] at CM;replace hk:=mK hk;replace hk1:=mK hk1;clear hr iY;go_wp2_with fail;refine CM.out.mono ?_;rintro e w7 ⟨v,rfl,h7,he7⟩;have hBW:=he7.blk b2.out;have hEW0:=hEW.out.trans he7;clear he7 CM hEW;obtain ⟨nb,a2,n2,c2,rfl⟩:=h7.shape;have hR:=h7.flat hBW (by simp [Au]) #[.bool nb,.slice a2 n2 c2];have hEW:=mK (hEW0.row (show w.heap.size≤w.heap.size+2 by omega) #[.bool nb,.slice a2 n2 c2]);replace hR:=mK hR;clear h7 hEW0;go_wp2_with (refine wpList_store_row rfl 52 (.tmp 4) (.tmp 32) rfl (w.heap.size+2) #[.bool nb,.slice a2 n2 c2] rfl rfl 52 _ hBW (by kernel_rfl) rfl (by kernel_rfl) ?_);exact bodyPost_ret (results_cell_row rfl _ _ (w.heap.size+2) 52 #[.bool nb,.slice a2 n2 c2] (0,0) _ rfl (setRow_heap _ _ _ _ _ _ hBW) Tryz.underlying52 rfl (by kernel_rfl)) rfl ⟨_,rfl,hR.out,hEW.out⟩
end Go.Proofs.YteogdoglboddhaaGreatDoor
