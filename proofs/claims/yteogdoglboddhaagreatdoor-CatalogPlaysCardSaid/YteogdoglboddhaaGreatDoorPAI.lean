/-
  polestarref02: turned, Lowest. polestarref02: Plus, Turned, Minus, Times, Cmp, Same: printed by tools/gen_ref.py. polestarref02: Check, Checks. The reference's Sign, zero, May (ref10, ref25): printed by tools/gen_rmay.py. Names: what is one; catalog.named. The catalogue in memory: its struct, its map, its parts; where they lie. One operation that changes no memory may come late, behind operations of the tail. The catalogue's New, gone, Put, Drop, Get. Parts that are handed back: a list of one's own, each part in rows of its own. Names in their order.
-/
import Derived.Test.YteogdoglboddhaaGreatDoorPAH
import Derived.Test.YteogdoglboddhaaGreatDoorPAF
import Derived.Test.YteogdoglboddhaaGreatDoorPAE
import Derived.Test.YteogdoglboddhaaGreatDoorPAG
import Derived.Test.YteogdoglboddhaaGreatDoorPAC
import Derived.Shelf.Strings.SlTrimAscii
import Derived.Test.YteogdoglboddhaaGreatDoorPAA
import Derived.Maps.AppendAt
import Derived.Sort.KeysCollected
set_option maxHeartbeats 6400000
namespace Go.Proofs.YteogdoglboddhaaGreatDoor
set_option maxRecDepth 100000
open Go Go.RowKit Go.Proofs
theorem Tu (v:Value)(X:Int)(w:World)(hX:nl X≤268435456)(h:IntR w v X) :
  Calls Tryz.prog 221 #[v] w fun e w'=>∃ v,e=.returned v∧IntR w' v (-X)∧Ext w w':=by
 have H1:=mK h;obtain ⟨b,a,n,c,rfl⟩:=h.shape;have hm:=mK (fun v0 W (e:Ext w W) h1=>Sg v0 (.agg #[.bool b,.slice a n c]) 0 X W (by unfold nl;simp [Al]) (by omega) h1 (h.ext e));rw [show (0:Int)-X = -X by omega] at hm;have ho:=mK (fun w=>No 0 w (by omega) (by omega));clear h;go_enter Tryz.func221,Tryz.ntmps221;go_wp2_with fail;obtain ⟨wb,hwb⟩:=nmE ((w.alloc (.cells #[.bool b,.slice a n c] 52)).alloc (.cells #[.bool false,.slice none 0 0] 52));have hE:=mK (aLe2 hwb);obtain ⟨h00,h01⟩:=ceX1 (aL20 hwb);have hB:=mK (aL21 hwb);rw [←hwb];clear hwb;apply Ad [.pred (fun W v=>IntR W v 0),.val _,.pred (fun W v=>IntR W v (-X))] (by kernel_rfl) (Bj _ (stable_vals _ (Bj _ trivial)));refine ⟨fun W hW _=>?g0,fun v0=>?_⟩
 case g0=>
  go_simp;refine (ho.out W).mono ?_;rintro e w' ⟨v,rfl,h1,h2⟩;exact ⟨v,rfl,h2,h1⟩
 refine ⟨fun W hW _=>by go_simp;exact ⟨xR _,rfl⟩,?_⟩;refine ⟨fun W hW hF=>?g2,fun v2=>fun W hW hF=>?fin⟩
 case g2=>
  have h0:Hid (IntR W v0 0):=hF.1 (by kernel_rfl);clear hF;go_simp;refine (hm.out _ W (hE.out.trans hW) h0.out).mono ?_;rintro e w' ⟨v,rfl,h1,h2⟩;exact ⟨v,rfl,h2,h1⟩
 case fin=>
  have h2:IntR W v2 (-X):=hF.1 rfl;have hBW:=hW.blk hB.out;have hEW0:=hE.out.trans hW;clear hF h00 h01 hm ho hW;go_simp;obtain ⟨nb,a2,n2,c2,rfl⟩:=h2.shape;have hR:=h2.flat hBW (by simp [Au]) #[.bool nb,.slice a2 n2 c2];have hEW:=mK (hEW0.row (show w.heap.size≤w.heap.size+1 by omega) #[.bool nb,.slice a2 n2 c2]);replace hR:=mK hR;clear h2 hEW0;go_wp2_with (refine wpList_store_row rfl 52 (.tmp 2) (.tmp 5) rfl (w.heap.size+1) #[.bool nb,.slice a2 n2 c2] rfl rfl 52 _ hBW (by kernel_rfl) rfl (by kernel_rfl) ?_);exact bodyPost_ret (results_cell_row rfl _ _ (w.heap.size+1) 52 #[.bool nb,.slice a2 n2 c2] (0,0) _ rfl (setRow_heap _ _ _ _ _ _ hBW) Tryz.underlying52 rfl (by kernel_rfl)) rfl ⟨_,rfl,hR.out,hEW.out⟩
def NewF (lo:Nat)(v:Value):Prop:=∀ b1 s1 b2 s2,v=.agg #[.bool b1,s1,.bool b2,s2]→NewV lo s1∧NewV lo s2
theorem Ai2 (v1 v2:Value)(X Y:Int)(w:World)(hX:nl X≤268435456)(hY:nl Y≤268435456)(hY0:Y≠0)(h1:IntR w v1 X)(h2:IntR w v2 Y) :
  Calls Tryz.prog 243 #[v1,v2] w fun e w'=>∃ v,e=.returned v∧FracR w' v (Rat.divInt X Y)∧Ext w w'∧(0≤Y→NewF w.heap.size v):=by
 have H1:=mK h1;have H2:=mK h2;obtain ⟨b1,a1,n1,m1,rfl⟩:=h1.shape;obtain ⟨b2,a2,n2,m2,rfl⟩:=h2.shape;have en:=Ok X Y;have ed:=Ol X Y hY0;rw [if_neg hY0] at en
 have hg0:Int.gcd X Y≠0:=by
  intro h;exact hY0 (Int.gcd_eq_zero_iff.1 h).2
 have hgl:nl (Int.gcd X Y:Nat)≤268435456:=by
  refine nT (An ?_) hY;rw [Int.natAbs_natCast];exact Nat.le_of_dvd (by omega) (by simpa using (Int.natAbs_dvd_natAbs.2 (Int.gcd_dvd_right X Y)))
 have hX2:=nT (Ii X (Int.gcd X Y)) hX;have hY2:=nT (Ii Y (Int.gcd X Y)) hY;have hs2:=tdiv_neg Y (Int.gcd X Y) hg0 (Int.gcd_dvd_right X Y);have CM:=mK (fun W h h'=>Abd (.agg #[.bool b1,.slice a1 n1 m1]) (.agg #[.bool b2,.slice a2 n2 m2]) X Y W hX hY h h');generalize Int.gcd X Y=G at *;obtain ⟨Q,hQ⟩:=nmE (Rat.divInt X Y);rw [←hQ] at en ed ⊢;replace en:=mK en;replace ed:=mK ed;replace hQ:=mK hQ;replace hs2:=mK hs2;replace hX:=mK hX;replace hY:=mK hY;replace hX2:=mK hX2;replace hY2:=mK hY2;replace hgl:=mK hgl;replace hg0:=mK hg0;replace hY0:=mK hY0;clear h1 h2;go_enter Tryz.func243,Tryz.ntmps243;go_wp2_with fail;obtain ⟨wb,hwb⟩:=nmE (((w.alloc (.cells #[.bool b1,.slice a1 n1 m1] 52)).alloc (.cells #[.bool b2,.slice a2 n2 m2] 52)).alloc (.cells #[.bool false,.slice none 0 0,.bool false,.slice none 0 0] 54));rw [←hwb];have hE:=aLe3 hwb;have hB0:=aL30 hwb;have hB1:=aL31 hwb;have hB2:=aL32 hwb;clear hwb;refine (CM.out wb (H1.out.ext hE) (H2.out.ext hE)).mono ?_;rintro e w1 ⟨vg,rfl,hg,hE1⟩;obtain ⟨bg,ag,ng,mg,rfl⟩:=hg.shape;have hEw:=hE.trans hE1;have iX:=H1.out.ext hEw;have iY:=H2.out.ext hEw;have kc0:=fun o=>((xR w1).al o).cell (Ac (hE1.blk hB0)).1;have kc1:=fun o=>((xR w1).al o).cell (Ac (hE1.blk hB0)).2;have DX:=mK (fun W (e:Ext w1 W)=>Ty _ _ X (G:Int) W (nT hX.out (by decide)) (nT hgl.out (by decide)) (by have:=hg0.out;omega) (iX.ext e) (hg.ext e));have DY:=mK (fun W (e:Ext w1 W)=>Ty _ _ Y (G:Int) W (nT hY.out (by decide)) (nT hgl.out (by decide)) (by have:=hg0.out;omega) (iY.ext e) (hg.ext e));replace hB1:=mK (hE1.blk hB1);replace hB2:=mK (hE1.blk hB2);replace hEw:=mK hEw;clear CM H1 H2 hE hE1 hB0 hg iX iY;go_wp2_with fail;refine (DX.out _ ((xR w1).al _)).mono ?_;rintro e w2 ⟨vn,vr,rfl,hn,hr,he2,hnn⟩;replace hnn:=mK (show NewI w.heap.size vn from fun b s e g hg=>nT (by have:=hEw.out.size;simp;omega) (hnn b s e g hg))
 obtain ⟨bn,an,nn,mn,rfl⟩:=hn.shape;obtain ⟨br,ar,nr,mr,rfl⟩:=hr.shape;have hb5:=he2.blk (show (w1.alloc (.cells #[.bool bg,.slice ag ng mg] 52)).heap[w1.heap.size]? = some (.cells #[.bool bg,.slice ag ng mg] 52) from heap_alloc_new _ _);have he12:=((xR w1).al _).trans he2;replace hB1:=he12.blk hB1.out;replace hB2:=mK (he12.blk hB2.out);have kd0:=fun o1 o2=>(((xR w2).al o1).al o2).cell (Ac hB1).1;have kd1:=fun o1 o2=>(((xR w2).al o1).al o2).cell (Ac hB1).2;have kg0:=fun o1 o2=>(((xR w2).al o1).al o2).cell (Ac hb5).1;have kg1:=fun o1 o2=>(((xR w2).al o1).al o2).cell (Ac hb5).2;replace DY:=mK (fun W (e:Ext w2 W)=>DY.out W (he12.trans e));replace hEw:=mK (hEw.out.trans he12);replace hn:=mK hn;clear hr he2 he12 hB1 hb5 DX kc0 kc1;go_wp2_with fail;refine (DY.out _ (((xR w2).al _).al _)).mono ?_;rintro e w3 ⟨vd,vr,rfl,hd,hr,he3,hdn⟩;replace hdn:=mK (show NewI w.heap.size vd from fun b s e g hg=>nT (by have:=hEw.out.size;simp;omega) (hdn b s e g hg));obtain ⟨bd,ad,nd,md,rfl⟩:=hd.shape;obtain ⟨be,ae,nde,me,rfl⟩:=hr.shape;have hb6:=mK (he3.blk (show ((w2.alloc (.cells #[.bool bn,.slice an nn mn] 52)).alloc (.cells #[.bool br,.slice ar nr mr] 52)).heap[w2.heap.size]? = some (.cells #[.bool bn,.slice an nn mn] 52) from (heap_alloc_old _ _ (by simp)).trans (heap_alloc_new _ _)));have he23:=(((xR w2).al _).al _).trans he3;replace hB2:=mK (he23.blk hB2.out);replace hn:=mK (hn.out.ext he23);replace hEw:=mK (hEw.out.trans he23);have SG:=mK (fun W (e:Ext w3 W)=>Fw _ (Y.tdiv (G:Nat)) W (hd.ext e) (nT hY2.out (by decide)));replace hd:=mK hd;clear hr he3 he23 DY kd0 kd1 kg0 kg1;go_wp2_with fail;refine (SG.out _ (((xR w3).al _).al _)).mono ?_;rintro e w4 ⟨rfl,he4⟩;have hb8:=he4.blk (show ((w3.alloc (.cells #[.bool bd,.slice ad nd md] 52)).alloc (.cells #[.bool be,.slice ae nde me] 52)).heap[w3.heap.size]? = some (.cells #[.bool bd,.slice ad nd md] 52) from (heap_alloc_old _ _ (by simp)).trans (heap_alloc_new _ _))
 have he34:=(((xR w3).al _).al _).trans he4;have hb6:=he34.blk hb6.out;replace hB2:=mK (he34.blk hB2.out);replace hn:=mK (hn.out.ext he34);replace hd:=mK (hd.out.ext he34);replace hEw:=mK (hEw.out.trans he34);have hsr:=Gu (Y.tdiv (G:Nat));have hsn:(Y.tdiv (G:Nat)).sign<0↔Y<0:=by rw [Int.sign_neg_iff];exact hs2.out
 have k60:=fun W (e:Ext w4 W)=>e.cell (Ac hb6).1;have k61:=fun W (e:Ext w4 W)=>e.cell (Ac hb6).2;have k80:=fun W (e:Ext w4 W)=>e.cell (Ac hb8).1;have k81:=fun W (e:Ext w4 W)=>e.cell (Ac hb8).2;clear SG he4 he34 hb6 hb8;generalize (Y.tdiv (G:Nat)).sign=S at *;by_cases hneg:Y<0
 ·have hS:=hsn.2 hneg
  have en:=en.out;have ed:=ed.out;rw [if_pos hneg] at en ed;have T1:=mK (fun W (e:Ext w4 W)=>Tu _ (X.tdiv (G:Nat)) W hX2.out (hn.out.ext e));have T2:=mK (fun W (e:Ext w4 W)=>Tu _ (Y.tdiv (G:Nat)) W hY2.out (hd.out.ext e));rw [←en] at T1;rw [←ed] at T2;replace en:=mK en;replace ed:=mK ed;replace hneg:=mK hneg;replace hsn:=mK hsn;clear hn hd;go_wp2_with fail;apply Ad [.val _,.pred (fun W v=>IntR W v Q.num),.val _,.pred (fun W v=>IntR W v (Q.den:Int))] (by kernel_rfl) (stable_vals _ (Bj _ (stable_vals _ (Bj _ trivial))));refine ⟨fun W hW _=>by go_simp;exact ⟨xR _,rfl⟩,?_⟩;refine ⟨fun W hW _=>?h1,fun v1=>?_⟩
  case h1=>
   go_simp;refine (T1.out W hW).mono ?_;rintro e w' ⟨v,rfl,h1,h2⟩;exact ⟨v,rfl,h2,h1⟩
  refine ⟨fun W hW _=>by go_simp;exact ⟨xR _,rfl⟩,?_⟩;refine ⟨fun W hW _=>?h3,fun v3=>fun W hW hF=>?fin⟩
  case h3=>
   go_simp;refine (T2.out W hW).mono ?_;rintro e w' ⟨v,rfl,h1,h2⟩;exact ⟨v,rfl,h2,h1⟩
  case fin=>
   have J3:IntR W v3 (Q.den:Int):=hF.1 rfl;have J1:IntR W v1 Q.num:=hF.2.1 rfl;obtain ⟨x1,x2,x3,x4,rfl⟩:=J1.shape;obtain ⟨y1,y2,y3,y4,rfl⟩:=J3.shape;have hBW:=hW.blk hB2.out;have hEW0:=hEw.out.trans hW;have R:FracR W (.agg #[.bool x1,.slice x2 x3 x4,.bool y1,.slice y2 y3 y4]) Q:=⟨_,_,_,_,_,_,_,_,rfl,J1,J3⟩
   have FR:=R.flat hBW (by simp [Au]) #[.bool x1,.slice x2 x3 x4,.bool y1,.slice y2 y3 y4];have FE:=mK (hEW0.row (show w.heap.size≤w.heap.size+2 by omega) #[.bool x1,.slice x2 x3 x4,.bool y1,.slice y2 y3 y4]);replace FR:=mK FR;clear hF J1 J3 R hEW0 T1 T2 k60 k61 k80 k81 hW;go_simp;go_wp2_with (refine wpList_store_row rfl 54 (.tmp 4) (.tmp 32) rfl (w.heap.size+2) #[.bool x1,.slice x2 x3 x4,.bool y1,.slice y2 y3 y4] rfl rfl 54 _ hBW (by kernel_rfl) rfl (by kernel_rfl) ?_);exact bodyPost_ret (results_cell_row rfl _ _ (w.heap.size+2) 54 #[.bool x1,.slice x2 x3 x4,.bool y1,.slice y2 y3 y4] (0,0) _ rfl (setRow_heap _ _ _ _ _ _ hBW) Tryz.underlying54 rfl (by kernel_rfl)) rfl ⟨_,rfl,FR.out,FE.out,fun h=>absurd h (by have:=hneg.out;omega)⟩
 ·have hS:¬S<0:=fun h=>hneg (hsn.1 h)
  have en:=en.out;have ed:=ed.out;rw [if_neg hneg] at en ed;have J1:=hn.out;have J3:=hd.out;rw [←en] at J1;rw [←ed] at J3;have hBW:=hB2.out;have R:FracR w4 (.agg #[.bool bn,.slice an nn mn,.bool bd,.slice ad nd md]) Q:=⟨_,_,_,_,_,_,_,_,rfl,J1,J3⟩
  have FR:=R.flat hBW (by simp [Au]) #[.bool bn,.slice an nn mn,.bool bd,.slice ad nd md];have FE:=mK (hEw.out.row (show w.heap.size≤w.heap.size+2 by omega) #[.bool bn,.slice an nn mn,.bool bd,.slice ad nd md]);have q60:=k60 w4 (xR _);have q61:=k61 w4 (xR _);have q80:=k80 w4 (xR _);have q81:=k81 w4 (xR _);replace FR:=mK FR;replace en:=mK en;replace ed:=mK ed;replace hneg:=mK hneg;replace hsn:=mK hsn;clear J1 J3 R hn hd k60 k61 k80 k81;go_wp2_with (refine wpList_store_row rfl 54 (.tmp 4) (.tmp 35) rfl (w.heap.size+2) #[.bool bn,.slice an nn mn,.bool bd,.slice ad nd md] rfl rfl 54 _ hBW (by kernel_rfl) rfl (by kernel_rfl) ?_);exact bodyPost_ret (results_cell_row rfl _ _ (w.heap.size+2) 54 #[.bool bn,.slice an nn mn,.bool bd,.slice ad nd md] (0,0) _ rfl (setRow_heap _ _ _ _ _ _ hBW) Tryz.underlying54 rfl (by kernel_rfl)) rfl ⟨_,rfl,FR.out,FE.out,fun _ _ _ _ _ e=>by cases e;exact ⟨hnn.out _ _ rfl,hdn.out _ _ rfl⟩⟩
theorem Ha {ss:List Fresh.FSpec}(x:Int)(h:Fresh.StableAll Ext ss):Fresh.StableAll Ext (.pred (fun W v=>IntR W v x)::ss):=⟨fun _ _ _ e h=>IntR.ext h e,h⟩
theorem Sm (x:Rat):(-x).num = -x.num∧(-x).den=x.den:=⟨rfl,rfl⟩

theorem Aeb {ss:List FSpec}(q:Rat)(lo:Nat)(h:StableAll Ext ss):StableAll Ext (.pred (fun W v=>FracR W v q∧NewF lo v)::ss):=⟨fun _ _ _ e h=>⟨h.1.ext e,h.2⟩,h⟩
theorem Aba (v1 v2:Value)(x y:Rat)(w:World)(hX1:nf x≤67108864)(hX2:nf y≤67108864)(h1:FracR w v1 x)(h2:FracR w v2 y) :
  Calls Tryz.prog 197 #[v1,v2] w fun e w'=>∃ v,e=.returned v∧FracR w' v (x+y)∧Ext w w'∧NewF w.heap.size v:=by
 have H1:=h1;have H2:=h2;obtain ⟨p1,q1,r1,s1,t1,u1,f1,g1,rfl⟩:=h1.shape;obtain ⟨p2,q2,r2,s2,t2,u2,f2,g2,rfl⟩:=h2.shape;have bn1:nl x.num≤67108864:=nT (Nat.le_max_left _ _) hX1;have bd1:nl (x.den:Int)≤67108864:=nT (Nat.le_max_right _ _) hX1;have bn2:nl y.num≤67108864:=nT (Nat.le_max_left _ _) hX2;have bd2:nl (y.den:Int)≤67108864:=nT (Nat.le_max_right _ _) hX2;have tA:=mK (fun W (e:Ext w W)=>Gv _ _ _ _ W (nT bn1 (by decide)) (nT bd2 (by decide)) (H1.num.ext e) (H2.den.ext e));have tB:=mK (fun W (e:Ext w W)=>Gv _ _ _ _ W (nT bn2 (by decide)) (nT bd1 (by decide)) (H2.num.ext e) (H1.den.ext e));have tD:=mK (fun W (e:Ext w W)=>Gv _ _ _ _ W (nT bd1 (by decide)) (nT bd2 (by decide)) (H1.den.ext e) (H2.den.ext e));have n1:=Ee x.num y.den;have n2:=Ee y.num x.den;have n3:=Ee x.den y.den;have n4:=Afa (x.num*y.den) (y.num*x.den);have hd:=Aao x y;have PL:=mK (fun v v' W h h'=>Vw v v' (x.num*y.den) (y.num*x.den) W (by omega) (by omega) h h');have LO:=mK (fun v v' W h h'=>Ai2 v v' (x.num*y.den+y.num*x.den) (x.den*y.den) W (by omega) (by omega) hd h h');clear n1 n2 n3 n4 hd;clear h1 H1 h2 H2;go_enter Tryz.func197,Tryz.ntmps197;go_wp2_with fail;obtain ⟨wb,hwb⟩:=nmE (((w.alloc (.cells #[.bool p1,.slice q1 r1 s1,.bool t1,.slice u1 f1 g1] 54)).alloc (.cells #[.bool p2,.slice q2 r2 s2,.bool t2,.slice u2 f2 g2] 54)).alloc (.cells #[.bool false,.slice none 0 0,.bool false,.slice none 0 0] 54));have hE:Ext w wb:=by rw [hwb];exact ((((xR w).al _).al _).al _)
 obtain ⟨c10,c11,c12,c13⟩:=ceX3 (aL30 hwb);obtain ⟨c20,c21,c22,c23⟩:=ceX3 (aL31 hwb);have hB:=mK (aL32 hwb);rw [←hwb];replace hE:=mK hE;clear hwb;apply Hg [.val _,.val _,.val _,.val _,.pred (fun W v=>IntR W v (x.num*y.den)),.val _,.val _,.val _,.val _,.pred (fun W v=>IntR W v (y.num*x.den)),.pred (fun W v=>IntR W v (x.num*y.den+y.num*x.den)),.fresh (VarAt wb.heap.size #[.bool false,.slice none 0 0] 52)] (by kernel_rfl) (Fresh.stable_vals _ (Fresh.stable_vals _ (Fresh.stable_vals _ (Fresh.stable_vals _ (Ha _ (Fresh.stable_vals _ (Fresh.stable_vals _ (Fresh.stable_vals _ (Fresh.stable_vals _ (Ha _ (Ha _ (Oq _ _ _ trivial))))))))))));refine ⟨fun W hW _=>by go_simp;exact ⟨xR _,rfl⟩,?_⟩;refine ⟨fun W hW _=>by go_simp;exact ⟨xR _,rfl⟩,?_⟩;refine ⟨fun W hW _=>by go_simp;exact ⟨xR _,rfl⟩,?_⟩;refine ⟨fun W hW _=>by go_simp;exact ⟨xR _,rfl⟩,?_⟩;refine ⟨fun W hW hF=>?midg4,fun v104=>?_⟩
 case midg4=>
  clear hF;go_simp;refine (tA.out W (hE.out.trans hW)).mono ?_;rintro e w' ⟨v,rfl,h1,h2⟩;exact ⟨v,rfl,h2,h1⟩
 refine ⟨fun W hW _=>by go_simp;exact ⟨xR _,rfl⟩,?_⟩;refine ⟨fun W hW _=>by go_simp;exact ⟨xR _,rfl⟩,?_⟩;refine ⟨fun W hW _=>by go_simp;exact ⟨xR _,rfl⟩,?_⟩;refine ⟨fun W hW _=>by go_simp;exact ⟨xR _,rfl⟩,?_⟩;refine ⟨fun W hW hF=>?midg9,fun v109=>?_⟩
 case midg9=>
  clear hF;go_simp;refine (tB.out W (hE.out.trans hW)).mono ?_;rintro e w' ⟨v,rfl,h1,h2⟩;exact ⟨v,rfl,h2,h1⟩
 refine ⟨fun W hW hF=>?midg10,fun v110=>?_⟩
 case midg10=>
  have d4:Hid (IntR W v104 (x.num*y.den)):=hF.2.1 (by kernel_rfl);have d9:Hid (IntR W v109 (y.num*x.den)):=hF.1 (by kernel_rfl);clear hF;go_simp;refine (PL.out _ _ W d4.out d9.out).mono ?_;rintro e w' ⟨v,rfl,h1,h2⟩;exact ⟨v,rfl,h2,h1⟩
 refine ⟨fun W hW hF=>?midg11,fun v111=>fun W hW hF hAp=>?mid⟩
 case midg11=>
  have hnv:=mK (Ga (b:=wb.heap.size) (cs:=#[.bool false,.slice none 0 0]) (T:=52) W hW.size);clear hF;go_simp;exact ⟨hnv.out.1,hnv.out.2.1,hnv.out.2.2⟩
 case mid=>
  obtain ⟨⟨g,rfl,hgb,hg⟩,_⟩:=hF.1 rfl;have d:IntR W v110 (x.num*y.den+y.num*x.den):=hF.2.1 rfl;obtain ⟨m1,m2,m3,m4,rfl⟩:=d.shape;obtain ⟨wc,hwc⟩:=nmE (W.setRow g #[.bool m1,.slice m2 m3 m4]);have hgc:wc.heap[g]? = some (.cells #[.bool m1,.slice m2 m3 m4] 52 (0,0)):=by rw [hwc];exact setRow_heap _ _ _ _ _ _ hg
  have hEc:Ext wb wc:=by rw [hwc];exact hW.row hgb _
  have m0:∀ W',Ext wc W'→W'.cell? ⟨g,0,none⟩=some (.bool m1):=fun W' e=>e.cell (Ac hgc).1;have n0:∀ W',Ext wc W'→W'.cell? ⟨g,1,none⟩=some (.slice m2 m3 m4):=fun W' e=>e.cell (Ac hgc).2;have dm:=mK (show IntR wc (.agg #[.bool m1,.slice m2 m3 m4]) (x.num*y.den+y.num*x.den) by rw [hwc];exact d.flat hg (by simp [Au]) _);replace hg:=mK hg;replace hwc:=mK hwc;clear hF hAp d hgc;go_simp;go_wp2_with (refine wpList_store_row rfl 52 (.tmp 5) (.tmp 16) rfl g #[.bool m1,.slice m2 m3 m4] rfl rfl 52 _ hg.out (by kernel_rfl) rfl (by kernel_rfl) ?_);replace c10:=exL c10 hEc;replace c11:=exL c11 hEc;replace c12:=exL c12 hEc;replace c13:=exL c13 hEc;replace c20:=exL c20 hEc;replace c21:=exL c21 hEc;replace c22:=exL c22 hEc;replace c23:=exL c23 hEc;replace hE:=mK (hE.out.trans hEc);replace hB:=mK (hEc.blk hB.out);rw [←hwc.out];clear hwc hEc hW hg hgb;obtain ⟨wb,rfl⟩:=nmE wc;apply Ad [.val _,.val _,.val _,.val _,.val _,.pred (fun W v=>IntR W v ((x.den:Int)*y.den)),.pred (fun W v=>FracR W v (Rat.divInt (x.num*y.den+y.num*x.den) (x.den*y.den))∧NewF w.heap.size v)] (by kernel_rfl) (stable_vals _ (stable_vals _ (stable_vals _ (stable_vals _ (stable_vals _ (Bj _ (Aeb _ _ trivial)))))));refine ⟨fun W hW _=>by go_simp;exact ⟨xR _,rfl⟩,?_⟩;refine ⟨fun W hW _=>by go_simp;exact ⟨xR _,rfl⟩,?_⟩;refine ⟨fun W hW _=>by go_simp;exact ⟨xR _,rfl⟩,?_⟩;refine ⟨fun W hW _=>by go_simp;exact ⟨xR _,rfl⟩,?_⟩;refine ⟨fun W hW _=>by go_simp;exact ⟨xR _,rfl⟩,?_⟩;refine ⟨fun W hW hF=>?fing5,fun v205=>?_⟩
  case fing5=>
   clear hF;go_simp;refine (tD.out W (hE.out.trans hW)).mono ?_;rintro e w' ⟨v,rfl,h1,h2⟩;exact ⟨v,rfl,h2,h1⟩
  refine ⟨fun W hW hF=>?fing6,fun v206=>fun W hW hF=>?fin⟩
  case fing6=>
   have d5:Hid (IntR W v205 ((x.den:Int)*y.den)):=hF.1 (by kernel_rfl);clear hF;go_simp;refine (LO.out _ _ W (dm.out.ext hW) d5.out).mono ?_;rintro e w' ⟨v,rfl,h1,h2,h3⟩;refine ⟨v,rfl,h2,h1,fun b1 s1 b2 s2 e=>?_⟩;obtain ⟨n1,n2⟩:=h3 (Int.mul_nonneg (by omega) (by omega)) b1 s1 b2 s2 e;have hz:=(hE.out.trans hW).size;exact ⟨fun g hg=>nT hz (n1 g hg),fun g hg=>nT hz (n2 g hg)⟩
  case fin=>
   have R':FracR W v206 (Rat.divInt (x.num*y.den+y.num*x.den) (x.den*y.den))∧NewF w.heap.size v206:=hF.1 rfl;obtain ⟨R,RN⟩:=R';replace RN:=mK RN;obtain ⟨x1,x2,x3,x4,y1,y2,y3,y4,rfl⟩:=R.shape;rw [Aig x y] at R;have hBW:=hW.blk hB.out;have FR:=mK (R.flat hBW (by simp [Au]) #[.bool x1,.slice x2 x3 x4,.bool y1,.slice y2 y3 y4]);have FE:=mK ((hE.out.trans hW).row (show w.heap.size≤w.heap.size+2 by omega) #[.bool x1,.slice x2 x3 x4,.bool y1,.slice y2 y3 y4]);clear hF R c10 c11 c12 c13 c20 c21 c22 c23 hW m0 n0;go_simp;go_wp2_with (refine wpList_store_row rfl 54 (.tmp 4) (.tmp 23) rfl (w.heap.size+2) #[.bool x1,.slice x2 x3 x4,.bool y1,.slice y2 y3 y4] rfl rfl 54 _ hBW (by kernel_rfl) rfl (by kernel_rfl) ?_);exact bodyPost_ret (results_cell_row rfl _ _ (w.heap.size+2) 54 #[.bool x1,.slice x2 x3 x4,.bool y1,.slice y2 y3 y4] (0,0) _ rfl (setRow_heap _ _ _ _ _ _ hBW) Tryz.underlying54 rfl (by kernel_rfl)) rfl ⟨_,rfl,FR.out,FE.out,RN.out⟩
theorem Ag6 (v1 v2:Value)(x y:Rat)(w:World)(hX1:nf x≤67108864)(hX2:nf y≤67108864)(h1:FracR w v1 x)(h2:FracR w v2 y) :
  Calls Tryz.prog 197 #[v1,v2] w fun e w'=>∃ v,e=.returned v∧FracR w' v (x+y)∧Ext w w':=
 (Aba v1 v2 x y w hX1 hX2 h1 h2).mono fun _ _ ⟨v,h1,h2,h3,_⟩=>⟨v,h1,h2,h3⟩
theorem Afd (x:Rat):nf (-x)=nf x:=by unfold nf;rw [(Sm x).1,(Sm x).2,Ug]

theorem Mf (v1:Value)(x:Rat)(w:World)(hX1:nf x≤67108864)(h1:FracR w v1 x) :
  Calls Tryz.prog 179 #[v1] w fun e w'=>∃ v,e=.returned v∧FracR w' v (-x)∧Ext w w':=by
 have H1:=h1;obtain ⟨p1,q1,r1,s1,t1,u1,f1,g1,rfl⟩:=h1.shape;have bn1:nl x.num≤67108864:=nT (Nat.le_max_left _ _) hX1;have bd1:nl (x.den:Int)≤67108864:=nT (Nat.le_max_right _ _) hX1;have TN:=mK (fun W (e:Ext w W)=>Tu _ x.num W (nT bn1 (by decide)) (H1.num.ext e));have DN:=mK (fun W (e:Ext w W)=>H1.den.ext e);clear h1 H1;go_enter Tryz.func179,Tryz.ntmps179;go_wp2_with fail;obtain ⟨wb,hwb⟩:=nmE ((w.alloc (.cells #[.bool p1,.slice q1 r1 s1,.bool t1,.slice u1 f1 g1] 54)).alloc (.cells #[.bool false,.slice none 0 0,.bool false,.slice none 0 0] 54));have hE:Ext w wb:=by rw [hwb];exact (((xR w).al _).al _)
 obtain ⟨c10,c11,c12,c13⟩:=ceX3 (aL20 hwb);have hB:=mK (aL21 hwb);rw [←hwb];replace hE:=mK hE;clear hwb;apply Ad [.val _,.val _,.pred (fun W v=>IntR W v (-x.num)),.val _,.val _] (by kernel_rfl) (stable_vals _ (stable_vals _ (Bj _ (stable_vals _ (stable_vals _ trivial)))));refine ⟨fun W hW _=>by go_simp;exact ⟨xR _,rfl⟩,?_⟩;refine ⟨fun W hW _=>by go_simp;exact ⟨xR _,rfl⟩,?_⟩;refine ⟨fun W hW hF=>?fing2,fun v102=>?_⟩
 case fing2=>
  clear hF;go_simp;refine (TN.out W (hE.out.trans hW)).mono ?_;rintro e w' ⟨v,rfl,h1,h2⟩;exact ⟨v,rfl,h2,h1⟩
 refine ⟨fun W hW _=>by go_simp;exact ⟨xR _,rfl⟩,?_⟩;refine ⟨fun W hW _=>by go_simp;exact ⟨xR _,rfl⟩,fun W hW hF=>?fin⟩
 case fin=>
  have d2:IntR W v102 (-x.num):=hF.1 rfl;obtain ⟨x1,x2,x3,x4,rfl⟩:=d2.shape;have R:FracR W (.agg #[.bool x1,.slice x2 x3 x4,.bool t1,.slice u1 f1 g1]) (-x):=⟨_,_,_,_,_,_,_,_,rfl,d2,DN.out W (hE.out.trans hW)⟩
  have hBW:=hW.blk hB.out;have FR:=mK (R.flat hBW (by simp [Au]) #[.bool x1,.slice x2 x3 x4,.bool t1,.slice u1 f1 g1]);have FE:=mK ((hE.out.trans hW).row (show w.heap.size≤w.heap.size+1 by omega) #[.bool x1,.slice x2 x3 x4,.bool t1,.slice u1 f1 g1]);clear hF R c10 c11 c12 c13 hW;go_simp;go_wp2_with (refine wpList_store_row rfl 54 (.tmp 2) (.tmp 8) rfl (w.heap.size+1) #[.bool x1,.slice x2 x3 x4,.bool t1,.slice u1 f1 g1] rfl rfl 54 _ hBW (by kernel_rfl) rfl (by kernel_rfl) ?_);exact bodyPost_ret (results_cell_row rfl _ _ (w.heap.size+1) 54 #[.bool x1,.slice x2 x3 x4,.bool t1,.slice u1 f1 g1] (0,0) _ rfl (setRow_heap _ _ _ _ _ _ hBW) Tryz.underlying54 rfl (by kernel_rfl)) rfl ⟨_,rfl,FR.out,FE.out⟩

theorem Vx (v1 v2:Value)(x y:Rat)(w:World)(hX1:nf x≤67108864)(hX2:nf y≤67108864)(h1:FracR w v1 x)(h2:FracR w v2 y) :
  Calls Tryz.prog 177 #[v1,v2] w fun e w'=>∃ v,e=.returned v∧FracR w' v (x-y)∧Ext w w':=by
 have H1:=h1;have H2:=h2;obtain ⟨p1,q1,r1,s1,t1,u1,f1,g1,rfl⟩:=h1.shape;obtain ⟨p2,q2,r2,s2,t2,u2,f2,g2,rfl⟩:=h2.shape;have bn1:nl x.num≤67108864:=nT (Nat.le_max_left _ _) hX1;have bd1:nl (x.den:Int)≤67108864:=nT (Nat.le_max_right _ _) hX1;have bn2:nl y.num≤67108864:=nT (Nat.le_max_left _ _) hX2;have bd2:nl (y.den:Int)≤67108864:=nT (Nat.le_max_right _ _) hX2;have TN:=mK (fun W (e:Ext w W)=>Mf _ y W hX2 (H2.ext e));have PL:=mK (fun v W (e:Ext w W) h=>Ag6 _ v x (-y) W hX1 (by rw [Afd];exact hX2) (H1.ext e) h);clear h1 H1 h2 H2;go_enter Tryz.func177,Tryz.ntmps177;go_wp2_with fail;obtain ⟨wb,hwb⟩:=nmE (((w.alloc (.cells #[.bool p1,.slice q1 r1 s1,.bool t1,.slice u1 f1 g1] 54)).alloc (.cells #[.bool p2,.slice q2 r2 s2,.bool t2,.slice u2 f2 g2] 54)).alloc (.cells #[.bool false,.slice none 0 0,.bool false,.slice none 0 0] 54));have hE:Ext w wb:=by rw [hwb];exact ((((xR w).al _).al _).al _)
 obtain ⟨c10,c11,c12,c13⟩:=ceX3 (aL30 hwb);obtain ⟨c20,c21,c22,c23⟩:=ceX3 (aL31 hwb);have hB:=mK (aL32 hwb);rw [←hwb];replace hE:=mK hE;clear hwb;apply Ad [.val _,.val _,.pred (fun W v=>FracR W v (-y)),.pred (fun W v=>FracR W v (x + -y))] (by kernel_rfl) (stable_vals _ (stable_vals _ (Fo _ (Fo _ trivial))));refine ⟨fun W hW _=>by go_simp;exact ⟨xR _,rfl⟩,?_⟩;refine ⟨fun W hW _=>by go_simp;exact ⟨xR _,rfl⟩,?_⟩;refine ⟨fun W hW hF=>?fing2,fun v102=>?_⟩
 case fing2=>
  clear hF;go_simp;refine (TN.out W (hE.out.trans hW)).mono ?_;rintro e w' ⟨v,rfl,h1,h2⟩;exact ⟨v,rfl,h2,h1⟩
 refine ⟨fun W hW hF=>?fing3,fun v103=>fun W hW hF=>?fin⟩
 case fing3=>
  have d2:Hid (FracR W v102 (-y)):=hF.1 (by kernel_rfl);clear hF;go_simp;refine (PL.out _ W (hE.out.trans hW) d2.out).mono ?_;rintro e w' ⟨v,rfl,h1,h2⟩;exact ⟨v,rfl,h2,h1⟩
 case fin=>
  have R:FracR W v103 (x + -y):=hF.1 rfl;obtain ⟨x1,x2,x3,x4,y1,y2,y3,y4,rfl⟩:=R.shape;rw [←Rat.sub_eq_add_neg] at R;have hBW:=hW.blk hB.out;have FR:=mK (R.flat hBW (by simp [Au]) #[.bool x1,.slice x2 x3 x4,.bool y1,.slice y2 y3 y4]);have FE:=mK ((hE.out.trans hW).row (show w.heap.size≤w.heap.size+2 by omega) #[.bool x1,.slice x2 x3 x4,.bool y1,.slice y2 y3 y4]);clear hF R c10 c11 c12 c13 c20 c21 c22 c23 hW;go_simp;go_wp2_with (refine wpList_store_row rfl 54 (.tmp 4) (.tmp 8) rfl (w.heap.size+2) #[.bool x1,.slice x2 x3 x4,.bool y1,.slice y2 y3 y4] rfl rfl 54 _ hBW (by kernel_rfl) rfl (by kernel_rfl) ?_);exact bodyPost_ret (results_cell_row rfl _ _ (w.heap.size+2) 54 #[.bool x1,.slice x2 x3 x4,.bool y1,.slice y2 y3 y4] (0,0) _ rfl (setRow_heap _ _ _ _ _ _ hBW) Tryz.underlying54 rfl (by kernel_rfl)) rfl ⟨_,rfl,FR.out,FE.out⟩

theorem Ai4 (v1 v2:Value)(x y:Rat)(w:World)(hX1:nf x≤67108864)(hX2:nf y≤67108864)(h1:FracR w v1 x)(h2:FracR w v2 y) :
  Calls Tryz.prog 107 #[v1,v2] w fun e w'=>e=.returned (.int .i64 ((x.num*y.den-y.num*x.den).sign))∧Ext w w':=by
 have H1:=h1;have H2:=h2;obtain ⟨p1,q1,r1,s1,t1,u1,f1,g1,rfl⟩:=h1.shape;obtain ⟨p2,q2,r2,s2,t2,u2,f2,g2,rfl⟩:=h2.shape;have bn1:nl x.num≤67108864:=nT (Nat.le_max_left _ _) hX1;have bd1:nl (x.den:Int)≤67108864:=nT (Nat.le_max_right _ _) hX1;have bn2:nl y.num≤67108864:=nT (Nat.le_max_left _ _) hX2;have bd2:nl (y.den:Int)≤67108864:=nT (Nat.le_max_right _ _) hX2;have tA:=mK (fun W (e:Ext w W)=>Gv _ _ _ _ W (nT bn1 (by decide)) (nT bd2 (by decide)) (H1.num.ext e) (H2.den.ext e));have tB:=mK (fun W (e:Ext w W)=>Gv _ _ _ _ W (nT bn2 (by decide)) (nT bd1 (by decide)) (H2.num.ext e) (H1.den.ext e));have n1:=Ee x.num y.den;have n2:=Ee y.num x.den;have n4:=Zk (x.num*y.den) (y.num*x.den);have MI:=mK (fun v v' W h h'=>Sg v v' (x.num*y.den) (y.num*x.den) W (by omega) (by omega) h h');have SG:=mK (fun v W h=>Fw v (x.num*y.den-y.num*x.den) W h (by omega));clear n1 n2 n4;clear h1 H1 h2 H2;go_enter Tryz.func107,Tryz.ntmps107;go_wp2_with fail;obtain ⟨wb,hwb⟩:=nmE ((w.alloc (.cells #[.bool p1,.slice q1 r1 s1,.bool t1,.slice u1 f1 g1] 54)).alloc (.cells #[.bool p2,.slice q2 r2 s2,.bool t2,.slice u2 f2 g2] 54));have hE:Ext w wb:=by rw [hwb];exact (((xR w).al _).al _)
 obtain ⟨c10,c11,c12,c13⟩:=ceX3 (aL20 hwb);obtain ⟨c20,c21,c22,c23⟩:=ceX3 (aL21 hwb);rw [←hwb];replace hE:=mK hE;clear hwb;apply Hg [.val _,.val _,.val _,.val _,.pred (fun W v=>IntR W v (x.num*y.den)),.val _,.val _,.val _,.val _,.pred (fun W v=>IntR W v (y.num*x.den)),.pred (fun W v=>IntR W v (x.num*y.den-y.num*x.den)),.fresh (VarAt wb.heap.size #[.bool false,.slice none 0 0] 52)] (by kernel_rfl) (Fresh.stable_vals _ (Fresh.stable_vals _ (Fresh.stable_vals _ (Fresh.stable_vals _ (Ha _ (Fresh.stable_vals _ (Fresh.stable_vals _ (Fresh.stable_vals _ (Fresh.stable_vals _ (Ha _ (Ha _ (Oq _ _ _ trivial))))))))))));refine ⟨fun W hW _=>by go_simp;exact ⟨xR _,rfl⟩,?_⟩;refine ⟨fun W hW _=>by go_simp;exact ⟨xR _,rfl⟩,?_⟩;refine ⟨fun W hW _=>by go_simp;exact ⟨xR _,rfl⟩,?_⟩;refine ⟨fun W hW _=>by go_simp;exact ⟨xR _,rfl⟩,?_⟩;refine ⟨fun W hW hF=>?midg4,fun v104=>?_⟩
 case midg4=>
  clear hF;go_simp;refine (tA.out W (hE.out.trans hW)).mono ?_;rintro e w' ⟨v,rfl,h1,h2⟩;exact ⟨v,rfl,h2,h1⟩
 refine ⟨fun W hW _=>by go_simp;exact ⟨xR _,rfl⟩,?_⟩;refine ⟨fun W hW _=>by go_simp;exact ⟨xR _,rfl⟩,?_⟩;refine ⟨fun W hW _=>by go_simp;exact ⟨xR _,rfl⟩,?_⟩;refine ⟨fun W hW _=>by go_simp;exact ⟨xR _,rfl⟩,?_⟩;refine ⟨fun W hW hF=>?midg9,fun v109=>?_⟩
 case midg9=>
  clear hF;go_simp;refine (tB.out W (hE.out.trans hW)).mono ?_;rintro e w' ⟨v,rfl,h1,h2⟩;exact ⟨v,rfl,h2,h1⟩
 refine ⟨fun W hW hF=>?midg10,fun v110=>?_⟩
 case midg10=>
  have d4:Hid (IntR W v104 (x.num*y.den)):=hF.2.1 (by kernel_rfl);have d9:Hid (IntR W v109 (y.num*x.den)):=hF.1 (by kernel_rfl);clear hF;go_simp;refine (MI.out _ _ W d4.out d9.out).mono ?_;rintro e w' ⟨v,rfl,h1,h2⟩;exact ⟨v,rfl,h2,h1⟩
 refine ⟨fun W hW hF=>?midg11,fun v111=>fun W hW hF hAp=>?mid⟩
 case midg11=>
  have hnv:=mK (Ga (b:=wb.heap.size) (cs:=#[.bool false,.slice none 0 0]) (T:=52) W hW.size);clear hF;go_simp;exact ⟨hnv.out.1,hnv.out.2.1,hnv.out.2.2⟩
 case mid=>
  obtain ⟨⟨g,rfl,hgb,hg⟩,_⟩:=hF.1 rfl;have d:IntR W v110 (x.num*y.den-y.num*x.den):=hF.2.1 rfl;obtain ⟨m1,m2,m3,m4,rfl⟩:=d.shape;obtain ⟨wc,hwc⟩:=nmE (W.setRow g #[.bool m1,.slice m2 m3 m4]);have hgc:wc.heap[g]? = some (.cells #[.bool m1,.slice m2 m3 m4] 52 (0,0)):=by rw [hwc];exact setRow_heap _ _ _ _ _ _ hg
  have hEc:Ext wb wc:=by rw [hwc];exact hW.row hgb _
  have m0:∀ W',Ext wc W'→W'.cell? ⟨g,0,none⟩=some (.bool m1):=fun W' e=>e.cell (Ac hgc).1;have n0:∀ W',Ext wc W'→W'.cell? ⟨g,1,none⟩=some (.slice m2 m3 m4):=fun W' e=>e.cell (Ac hgc).2;have dm:=mK (show IntR wc (.agg #[.bool m1,.slice m2 m3 m4]) (x.num*y.den-y.num*x.den) by rw [hwc];exact d.flat hg (by simp [Au]) _);have zz:=Ac (setRow_heap W g #[.bool false,.slice none 0 0] #[.bool m1,.slice m2 m3 m4] _ _ hg);replace hg:=mK hg;replace hwc:=mK hwc;clear hF hAp d hgc;go_simp;go_wp2_with (refine wpList_store_row rfl 52 (.tmp 5) (.tmp 16) rfl g #[.bool m1,.slice m2 m3 m4] rfl rfl 52 _ hg.out (by kernel_rfl) rfl (by kernel_rfl) ?_);replace c10:=exL c10 hEc;replace c11:=exL c11 hEc;replace c12:=exL c12 hEc;replace c13:=exL c13 hEc;replace c20:=exL c20 hEc;replace c21:=exL c21 hEc;replace c22:=exL c22 hEc;replace c23:=exL c23 hEc;replace hE:=mK (hE.out.trans hEc);rw [←hwc.out];clear hwc hEc hW hg hgb;obtain ⟨wb,rfl⟩:=nmE wc;refine (SG.out _ wb dm.out).mono ?_;rintro e w' ⟨rfl,hE2⟩;have FE:=mK (hE.out.trans hE2);clear hE2;go_wp2_with fail;go_ret;exact ⟨rfl,FE.out⟩

theorem Ach (w:World):Calls Tryz.prog 198 #[] w fun e w'=>∃ v,e=.returned v∧FracR w' v 0∧Ext w w':=by
 have o1:=mK (fun w=>No 1 w (by omega) (by omega));go_enter Tryz.func198,Tryz.ntmps198;go_wp2_with fail;refine (o1.out _).mono ?_;rintro e w3 ⟨v,rfl,hv,hE3⟩;obtain ⟨y1,y2,y3,y4,rfl⟩:=hv.shape;have hBW:=hE3.blk (heap_alloc_new _ _);have hEW0:=((xR w).al _).trans hE3;have hz:IntR w3 (.agg #[.bool false,.slice none 0 0]) 0:=⟨.slice none 0 0,by simp,by simp [Al];exact Qb _⟩
 have R:FracR w3 (.agg #[.bool false,.slice none 0 0,.bool y1,.slice y2 y3 y4]) 0:=⟨_,_,_,_,_,_,_,_,rfl,hz,hv⟩
 have FR:=mK (R.flat hBW (by simp [Au]) #[.bool false,.slice none 0 0,.bool y1,.slice y2 y3 y4]);have FE:=mK (hEW0.row (nR _) #[.bool false,.slice none 0 0,.bool y1,.slice y2 y3 y4]);clear hv hE3 hz R hEW0;go_wp2_with (refine wpList_store_row rfl 54 (.tmp 0) (.tmp 2) rfl w.heap.size #[.bool false,.slice none 0 0,.bool y1,.slice y2 y3 y4] rfl rfl 54 _ hBW (by kernel_rfl) rfl (by kernel_rfl) ?_);exact bodyPost_ret (results_cell_row rfl _ _ w.heap.size 54 #[.bool false,.slice none 0 0,.bool y1,.slice y2 y3 y4] (0,0) _ rfl (setRow_heap _ _ _ _ _ _ hBW) Tryz.underlying54 rfl (by kernel_rfl)) rfl ⟨_,rfl,FR.out,FE.out⟩
theorem Pp (v:Value)(o:Option Rat)(w:World)(h:AnyF w v o) :
  Calls Tryz.prog 106 #[v] w fun e w'=>e=.returned (.int .i64 (if o.isSome then 0 else 1))∧Ext w w':=by
 obtain ⟨b1,l1,b2,l2,⟨a1,c1,a2,c2,rfl,h2,h3,h4,h5⟩,rfl⟩:=h;have k1:=mK (fun w h=>Vy (.agg #[.bool b1,.slice a1 l1.length c1]) b1 l1 w h2 h);have k2:=mK (fun w h=>Vy (.agg #[.bool b2,.slice a2 l2.length c2]) b2 l2 w h3 h);replace h4:=mK h4;replace h5:=mK h5;by_cases g1:Cg b1 l1=true
 ·rw [if_pos g1] at k1
  by_cases g2:Cg b2 l2=true
  ·rw [if_pos g2] at k2
   obtain ⟨i1,n1⟩:=Iy h4.out g1;obtain ⟨i2,n2⟩:=Iy h5.out g2;have hn1:nl (sg b1 (val l1))≤268435456:=nT n1 (by decide);have hn2:nl (sg b2 (val l2))≤268435456:=nT n2 (by decide)
   have hr:(ratF b1 l1 b2 l2).isSome=decide (0<sg b2 (val l2)∧Int.gcd (sg b1 (val l1)) (sg b2 (val l2))=1):=by
    unfold ratF okF;rw [g1,g2];by_cases u1:0<sg b2 (val l2)<;>by_cases u2:Int.gcd (sg b1 (val l1)) (sg b2 (val l2))=1<;>simp [u1,u2]
   rw [hr];clear hr g1 g2 h2 h3 n1 n2;generalize sg b1 (val l1)=X at *;generalize sg b2 (val l2)=Y at *;have hsg:=mK (fun w h=>Fw (.agg #[.bool b2,.slice a2 l2.length c2]) Y w h (nT hn2 (by decide)));have hcm:=mK (fun w h h'=>Abd (.agg #[.bool b1,.slice a1 l1.length c1]) (.agg #[.bool b2,.slice a2 l2.length c2]) X Y w hn1 hn2 h h');replace i1:=mK i1;replace i2:=mK i2;by_cases hy:0<Y
   ·have hs:Y.sign=1:=Int.sign_eq_one_of_pos hy
    rw [hs] at hsg
    have hgl:nl (Int.gcd X Y:Nat)≤1073741824:=by
     refine nT (An ?_) (nT hn2 (by decide));rw [Int.natAbs_natCast];exact Nat.le_of_dvd (by omega) (by simpa using (Int.natAbs_dvd_natAbs.2 (Int.gcd_dvd_right X Y)))
    have hof:=mK (fun w=>No 1 w (by omega) (by omega));by_cases hg:Int.gcd X Y=1
    ·rw [if_pos (decide_eq_true ⟨hy,hg⟩)]
     have hcp:=mK (fun v1 v2 w h1 h2=>Vz v1 v2 1 (Int.gcd X Y:Nat) w Pu hgl h1 h2);rw [show decide ((1:Int)<((Int.gcd X Y:Nat):Int))=false by rw [hg];rfl] at hcp;clear hs hgl hn1 hn2;generalize Int.gcd X Y=G at *;replace hy:=mK hy;replace hg:=mK hg;go_enter Tryz.func106,Tryz.ntmps106;go_wp2_with fail;refine (k1.out _ (h4.out.ext ((xR w).al _))).mono ?_;rintro e w1 ⟨rfl,hE1⟩;have hb:=As (hE1.blk (heap_alloc_new w _));have E1:=((xR w).al _).trans hE1;replace k2:=mK (k2.out w1 (h5.out.ext E1));replace hb:=hb;have hE1':=mK hE1;replace E1:=mK E1;clear hE1 k1;go_wp2_with fail;refine k2.out.mono ?_;rintro e w2 ⟨rfl,hE2⟩;have hE12:=hE1'.out.trans hE2;replace hb:=As (hE12.blk (heap_alloc_new w _));replace E1:=mK (E1.out.trans hE2);replace hE12:=mK hE12;clear hE2 k2 hE1';go_wp2_with fail;refine (hsg.out w2 (i2.out.ext E1.out)).mono ?_;rintro e w3 ⟨rfl,hE3⟩;replace hE12:=mK (hE12.out.trans hE3);replace hb:=As (hE12.out.blk (heap_alloc_new w _));replace E1:=mK (E1.out.trans hE3);clear hE3;go_wp2_with fail;refine (hcm.out w3 (i1.out.ext E1.out) (i2.out.ext E1.out)).mono ?_;rintro e w4 ⟨vg,rfl,hgv,hE4⟩;obtain ⟨bg,ag,ng,mg,rfl⟩:=hgv.shape;replace E1:=mK (E1.out.trans hE4);replace hgv:=mK hgv;clear hE4 hb hE12;go_wp2_with fail;obtain ⟨wc,hwc⟩:=nmE (w4.alloc (.cells #[.bool bg,.slice ag ng mg] 52));have hEc:=aLe1 hwc;obtain ⟨m0,n0⟩:=ceX1 (aL10 hwc);rw [←hwc];replace hgv:=mK (hgv.out.ext hEc);replace E1:=mK (E1.out.trans hEc);clear hwc hEc;apply Ad [.pred (fun W v=>IntR W v 1),.val _,.val (.bool false)] (by kernel_rfl) (Bj _ (stable_vals _ (stable_vals _ trivial)));refine ⟨fun W hW hF=>?g0,fun v0=>?_⟩
     case g0=>
      go_simp;refine (hof.out W).mono ?_;rintro e w' ⟨v,rfl,h1,h2⟩;exact ⟨v,rfl,h2,h1⟩
     refine ⟨fun W hW _=>by go_simp;exact ⟨xR _,rfl⟩,?_⟩;refine ⟨fun W hW hF=>?g2,fun W hW hF=>?fin⟩
     case g2=>
      have d0:Hid (IntR W v0 1):=hF.1 (by kernel_rfl);clear hF;go_simp;refine (hcp.out _ _ W d0.out (hgv.out.ext hW)).mono ?_;rintro e w' ⟨rfl,hE'⟩;exact ⟨rfl,hE'⟩
     case fin=>
      replace E1:=mK (E1.out.trans hW);clear hF m0 n0 hW;go_simp;go_wp2_with fail;go_ret;exact ⟨rfl,E1.out⟩
    ·rw [if_neg (fun h=>hg (of_decide_eq_true h).2)]
     have hcp:=mK (fun v1 v2 w h1 h2=>Vz v1 v2 1 (Int.gcd X Y:Nat) w Pu hgl h1 h2)
     have hg2:Int.gcd X Y≠0:=by
      intro h;have:=(Int.gcd_eq_zero_iff.1 h).2;omega
     rw [show decide ((1:Int)<((Int.gcd X Y:Nat):Int))=true by simp;omega] at hcp;replace hg2:=mK hg2;clear hs hgl hn1 hn2;generalize Int.gcd X Y=G at *;replace hy:=mK hy;replace hg:=mK hg;go_enter Tryz.func106,Tryz.ntmps106;go_wp2_with fail;refine (k1.out _ (h4.out.ext ((xR w).al _))).mono ?_;rintro e w1 ⟨rfl,hE1⟩;have hb:=As (hE1.blk (heap_alloc_new w _));have E1:=((xR w).al _).trans hE1;replace k2:=mK (k2.out w1 (h5.out.ext E1));replace hb:=hb;have hE1':=mK hE1;replace E1:=mK E1;clear hE1 k1;go_wp2_with fail;refine k2.out.mono ?_;rintro e w2 ⟨rfl,hE2⟩;have hE12:=hE1'.out.trans hE2;replace hb:=As (hE12.blk (heap_alloc_new w _));replace E1:=mK (E1.out.trans hE2);replace hE12:=mK hE12;clear hE2 k2 hE1';go_wp2_with fail;refine (hsg.out w2 (i2.out.ext E1.out)).mono ?_;rintro e w3 ⟨rfl,hE3⟩;replace hE12:=mK (hE12.out.trans hE3);replace hb:=As (hE12.out.blk (heap_alloc_new w _));replace E1:=mK (E1.out.trans hE3);clear hE3;go_wp2_with fail;refine (hcm.out w3 (i1.out.ext E1.out) (i2.out.ext E1.out)).mono ?_;rintro e w4 ⟨vg,rfl,hgv,hE4⟩;obtain ⟨bg,ag,ng,mg,rfl⟩:=hgv.shape;replace E1:=mK (E1.out.trans hE4);replace hgv:=mK hgv;clear hE4 hb hE12;go_wp2_with fail;obtain ⟨wc,hwc⟩:=nmE (w4.alloc (.cells #[.bool bg,.slice ag ng mg] 52));have hEc:=aLe1 hwc;obtain ⟨m0,n0⟩:=ceX1 (aL10 hwc);rw [←hwc];replace hgv:=mK (hgv.out.ext hEc);replace E1:=mK (E1.out.trans hEc);clear hwc hEc;apply Ad [.pred (fun W v=>IntR W v 1),.val _,.val (.bool true)] (by kernel_rfl) (Bj _ (stable_vals _ (stable_vals _ trivial)));refine ⟨fun W hW hF=>?g0,fun v0=>?_⟩
     case g0=>
      go_simp;refine (hof.out W).mono ?_;rintro e w' ⟨v,rfl,h1,h2⟩;exact ⟨v,rfl,h2,h1⟩
     refine ⟨fun W hW _=>by go_simp;exact ⟨xR _,rfl⟩,?_⟩;refine ⟨fun W hW hF=>?g2,fun W hW hF=>?fin⟩
     case g2=>
      have d0:Hid (IntR W v0 1):=hF.1 (by kernel_rfl);clear hF;go_simp;refine (hcp.out _ _ W d0.out (hgv.out.ext hW)).mono ?_;rintro e w' ⟨rfl,hE'⟩;exact ⟨rfl,hE'⟩
     case fin=>
      replace E1:=mK (E1.out.trans hW);clear hF m0 n0 hW;go_simp;go_wp2_with fail;go_ret;exact ⟨rfl,E1.out⟩
   ·rw [if_neg (fun h=>hy (of_decide_eq_true h).1)]
    have hs:Y.sign≤0:=by
     rcases Int.lt_trichotomy Y 0 with h|h|h
     ·rw [Int.sign_eq_neg_one_of_neg h];decide
     ·rw [h];decide
     ·exact absurd h hy
    generalize Y.sign=S at *;replace hy:=mK hy;go_enter Tryz.func106,Tryz.ntmps106;go_wp2_with fail;refine (k1.out _ (h4.out.ext ((xR w).al _))).mono ?_;rintro e w1 ⟨rfl,hE1⟩;have hb:=As (hE1.blk (heap_alloc_new w _));have E1:=((xR w).al _).trans hE1;replace k2:=mK (k2.out w1 (h5.out.ext E1));replace hb:=hb;have hE1':=mK hE1;replace E1:=mK E1;clear hE1 k1;go_wp2_with fail;refine k2.out.mono ?_;rintro e w2 ⟨rfl,hE2⟩;have hE12:=hE1'.out.trans hE2;replace hb:=As (hE12.blk (heap_alloc_new w _));replace E1:=mK (E1.out.trans hE2);replace hE12:=mK hE12;clear hE2 k2 hE1';go_wp2_with fail;refine (hsg.out w2 (i2.out.ext E1.out)).mono ?_;rintro e w3 ⟨rfl,hE3⟩;replace E1:=mK (E1.out.trans hE3);clear hE3;go_wp2_with fail;go_ret;exact ⟨rfl,E1.out⟩
  ·rw [if_neg g2] at k2
   have ho:ratF b1 l1 b2 l2=none:=by unfold ratF okF;simp [g2]
   rw [ho];clear ho g1 g2 h2 h3;simp only [Option.isSome_none];rw [if_neg (by decide)];go_enter Tryz.func106,Tryz.ntmps106;go_wp2_with fail;refine (k1.out _ (h4.out.ext ((xR w).al _))).mono ?_;rintro e w1 ⟨rfl,hE1⟩;have hb:=As (hE1.blk (heap_alloc_new w _));have E1:=((xR w).al _).trans hE1;replace k2:=mK (k2.out w1 (h5.out.ext E1));replace hb:=hb;have hE1':=mK hE1;replace E1:=mK E1;clear hE1 k1;go_wp2_with fail;refine k2.out.mono ?_;rintro e w2 ⟨rfl,hE2⟩;have hE12:=hE1'.out.trans hE2;replace hb:=As (hE12.blk (heap_alloc_new w _));replace E1:=mK (E1.out.trans hE2);replace hE12:=mK hE12;clear hE2 k2 hE1';go_wp2_with fail;go_ret;exact ⟨rfl,E1.out⟩
 ·rw [if_neg g1] at k1
  have ho:ratF b1 l1 b2 l2=none:=by unfold ratF okF;simp [g1]
  rw [ho];clear ho g1 h2 h3;simp only [Option.isSome_none];rw [if_neg (by decide)];go_enter Tryz.func106,Tryz.ntmps106;go_wp2_with fail;refine (k1.out _ (h4.out.ext ((xR w).al _))).mono ?_;rintro e w1 ⟨rfl,hE1⟩;replace hE1:=mK (((xR w).al _).trans hE1);go_wp2_with fail;go_ret;exact ⟨rfl,hE1.out⟩
theorem Acm (g cap:Nat)(os:List (Option Rat))(w:World)(hn:os.length≤4294967296)(h:LF w g os) :
  Calls Tryz.prog 195 #[.slice (some ⟨g,0,none⟩) os.length cap] w fun e w'=>e=.returned (.bool (os.all Option.isSome))∧Ext w w':=by
 replace h:=mK h;obtain ⟨n,hnn⟩:=nmE os.length;rw [←hnn];obtain ⟨r,hr⟩:=nmE (os.all Option.isSome);rw [←hr];have hn2:n≤4294967296:=by omega
 replace hnn:=mK hnn;replace hr:=mK hr;clear hn;obtain ⟨wo,hwo⟩:=nmE (w:World);go_enter Tryz.func195,Tryz.ntmps195;go_wp2_with fail;go_loopw [3] (fun i wr=>∃ k,k≤n∧i=.int .i64 (k:Nat)∧Ext wo wr∧∀ j,j<k→(os.getD j none).isSome=true) (fun i _=>n-(intOf i).toNat)
 case atStart=>exact ⟨0,Nat.zero_le _,rfl,hwo ▸ xR _,fun j hj=>absurd hj (by omega)⟩
 case round=>
  obtain ⟨k,hk,rfl,hE,hj⟩:=hrel;by_cases hlt:k<n
  ·obtain ⟨b1,a1,n1,c1,b2,a2,n2,c2,h1,h2,h3,h4,h5⟩:=(h.out.ext (hwo ▸ hE)) k (by rw [←hnn.out];exact hlt)
   have hck:=mK (fun w h=>Pp (.agg #[.bool b1,.slice a1 n1 c1,.bool b2,.slice a2 n2 c2]) (os.getD k none) w h);obtain ⟨o,ho⟩:=nmE (os.getD k none);rw [←ho] at hck h5;replace h5:=mK h5;replace hE:=mK hE;replace hj:=mK hj;replace ho:=mK ho;cases o with
   | none=>
    have hf:r=false:=by
     rw [hr.out,Bool.eq_false_iff];intro e;rw [List.all_eq_true] at e;have hkl:k<os.length:=by rw [←hnn.out];exact hlt
     have:=e _ (List.getElem_mem hkl);have h2:=ho.out;rw [List.getD_eq_getElem?_getD,List.getElem?_eq_getElem hkl] at h2;simp at h2;rw [←h2] at this;cases this
    subst hf;simp only [Option.isSome_none] at hck;go_wp2_with fail;refine (hck.out _ h5.out).mono ?_;rintro e w2 ⟨rfl,hE2⟩;replace hE:=mK (hE.out.trans hE2);clear hE2 h1 h2 h3 h4;go_wp2_with fail;go_ret;exact ⟨rfl,hwo ▸ hE.out⟩
   | some x=>
    simp only [Option.isSome_some] at hck;go_wp2_with fail;refine (hck.out _ h5.out).mono ?_;rintro e w2 ⟨rfl,hE2⟩;replace hE:=mK (hE.out.trans hE2);clear hE2 h1 h2 h3 h4;go_wp2_with fail;go_roundw
    case rel=>
     refine ⟨k+1,by omega,by go_num,hE.out,fun j hjk=>?_⟩;rcases Nat.lt_or_ge j k with h|h
     ·exact hj.out j h
     ·obtain rfl:j=k:=by omega
      rw [←ho.out];rfl
    case measure=>simp [intOf]<;>omega
  ·obtain rfl:n=k:=by omega
   have hf:r=true:=by
    rw [hr.out,List.all_eq_true];intro x hx;obtain ⟨j,hjl,rfl⟩:=List.getElem_of_mem hx;have:=hj j (by rw [hnn.out];exact hjl);rwa [List.getD_eq_getElem?_getD,List.getElem?_eq_getElem hjl] at this
   subst hf;replace hE:=mK hE;replace hj:=mK hj;go_wp2_with fail;go_ret;exact ⟨rfl,hwo ▸ hE.out⟩
theorem Kw (v:Value)(x:Rat)(w:World)(hX:nf x≤268435456)(h:FracR w v x) :
  Calls Tryz.prog 178 #[v] w fun e w'=>e=.returned (.int .i64 x.num.sign)∧Ext w w':=by
 have H:=mK h;obtain ⟨x1,x2,x3,x4,y1,y2,y3,y4,rfl⟩:=h.shape;have hn:nl x.num≤1073741824:=nT (Nat.le_max_left _ _) (nT hX (by decide));have hs:=mK (fun w h=>Fw (.agg #[.bool x1,.slice x2 x3 x4]) x.num w h hn);clear h;go_enter Tryz.func178,Tryz.ntmps178;go_wp2_with fail;refine (hs.out _ (H.out.ext ((xR w).al _)).num).mono ?_;rintro e w' ⟨rfl,hE⟩;have FE:=mK (((xR w).al _).trans hE);clear hE;go_wp2_with fail;go_ret;exact ⟨rfl,FE.out⟩
theorem Aa9 (v:Value)(x:Rat)(w:World)(hX:nf x≤268435456)(h:FracR w v x) :
  Calls Tryz.prog 196 #[v] w fun e w'=>e=.returned (.bool (x.num.sign==0))∧Ext w w':=by
 have H:=h;obtain ⟨x1,x2,x3,x4,y1,y2,y3,y4,rfl⟩:=h.shape;have hs:=mK (fun W (e:Ext w W)=>Kw _ x W hX (H.ext e));clear h H hX;generalize x.num.sign=sx at *;go_enter Tryz.func196,Tryz.ntmps196;go_wp2_with (go_at_call 178;refine (hs.out _ ((xR w).al _)).mono ?_;rintro e w2 ⟨rfl,hx⟩;have hE:=mK (((xR w).al _).trans hx);clear hx);go_ret;exact ⟨rfl,hE.out⟩
theorem Ahm (kd:Int)(b1:Bool)(a1:Option Addr)(n1 c1:Nat)(b2:Bool)(a2:Option Addr)(n2 c2:Nat)(b3:Bool)(a3:Option Addr)(n3 c3:Nat)(b4:Bool)(a4:Option Addr)(n4 c4:Nat)(op oq:Option Rat)(w:World)(h1:AnyF w (.agg #[.bool b1,.slice a1 n1 c1,.bool b2,.slice a2 n2 c2]) op)(h2:AnyF w (.agg #[.bool b3,.slice a3 n3 c3,.bool b4,.slice a4 n4 c4]) oq) :
  Calls Tryz.prog 154 #[.agg #[.int .u8 kd,.bool b1,.slice a1 n1 c1,.bool b2,.slice a2 n2 c2,.bool b3,.slice a3 n3 c3,.bool b4,.slice a4 n4 c4]] w fun e w'=>e=.returned (.bool (mayO kd op oq))∧Ext w w':=by
 obtain ⟨wb,hwb⟩:=nmE (w.alloc (.cells #[.int .u8 kd,.bool b1,.slice a1 n1 c1,.bool b2,.slice a2 n2 c2,.bool b3,.slice a3 n3 c3,.bool b4,.slice a4 n4 c4] 56));have hE:=aLe1 hwb;have z0:=aL10 hwb;have hsz:=aLs1 hwb;obtain ⟨w2,hw2⟩:=nmE (wb.alloc (.cells #[.bool b1,.slice a1 n1 c1,.bool b2,.slice a2 n2 c2,.bool b3,.slice a3 n3 c3,.bool b4,.slice a4 n4 c4] 54));have hE2:=aLe1 hw2;have zS:w2.heap[w.heap.size+1]? = some (.cells #[.bool b1,.slice a1 n1 c1,.bool b2,.slice a2 n2 c2,.bool b3,.slice a3 n3 c3,.bool b4,.slice a4 n4 c4] 54 (0,0)):=by rw [hw2,←hsz];exact heap_alloc_new _ _
 have HC:=Acm (w.heap.size+1) 2 [op,oq] w2 (by simp) (Afo zS (h1.ext (hE.trans hE2)) (h2.ext (hE.trans hE2)));have z02:=mK (hE2.blk z0);replace z0:=mK z0;replace hE:=mK (hE.trans hE2);replace hwb:=mK hwb;replace hw2:=mK hw2;replace hsz:=mK hsz;clear hE2 zS;cases hb:[op,oq].all Option.isSome with
 | false=>
  rw [hb] at HC;rw [Mk kd hb];replace HC:=mK HC;clear hb h1 h2;go_enter Tryz.func154,Tryz.ntmps154;have tok:Tok 0:=.mk _
  go_wp2_with (first
   | (replace tok:Tok 1:=nxT 0 tok;rw [←hwb.out];refine Ab (by rfl) 54 (.tmp 3) rfl (w.heap.size) 1 rfl 56 #[.int .u8 kd,.bool b1,.slice a1 n1 c1,.bool b2,.slice a2 n2 c2,.bool b3,.slice a3 n3 c3,.bool b4,.slice a4 n4 c4] #[.bool b1,.slice a1 n1 c1,.bool b2,.slice a2 n2 c2] (0,0) _ z0.out rfl Tryz.underlying54 rfl (by kernel_rfl) ?_)
   | (replace tok:Tok 2:=nxT 1 tok;refine Ab (by rfl) 54 (.tmp 5) rfl (w.heap.size) 5 rfl 56 #[.int .u8 kd,.bool b1,.slice a1 n1 c1,.bool b2,.slice a2 n2 c2,.bool b3,.slice a3 n3 c3,.bool b4,.slice a4 n4 c4] #[.bool b3,.slice a3 n3 c3,.bool b4,.slice a4 n4 c4] (0,0) _ z0.out rfl Tryz.underlying54 rfl (by kernel_rfl) ?_)
   | (replace tok:Tok 3:=nxT 2 tok;go_at_call 195;rw [←hw2.out,hsz.out];refine HC.out.mono ?_;rintro e w3 ⟨rfl,hx⟩;replace hE:=mK (hE.out.trans hx);replace z0:=mK (hx.blk z02.out);have y0:=Aa z0.out 0;replace y0:w3.cell? ⟨w.heap.size,0,none⟩=some (.int .u8 _):=y0;clear hx z02))
  go_ret;exact ⟨rfl,hE.out⟩
 | true=>
  obtain ⟨p,rfl⟩:∃ p,op=some p:=by cases op with
   | none=>simp at hb
   | some p=>exact ⟨p,rfl⟩
  obtain ⟨q,rfl⟩:∃ q,oq=some q:=by cases oq with
   | none=>simp at hb
   | some q=>exact ⟨q,rfl⟩
  rw [hb] at HC;replace HC:=mK HC;obtain ⟨f1,k1⟩:=h1.frac;obtain ⟨f2,k2⟩:=h2.frac;have S1:=mK (fun W (e:Ext w W)=>Kw _ p W (nT k1 (by decide)) (f1.ext e));have S2:=mK (fun W (e:Ext w W)=>Kw _ q W (nT k2 (by decide)) (f2.ext e));have Z1:=mK (fun W (e:Ext w W)=>Aa9 _ p W (nT k1 (by decide)) (f1.ext e));have Z2:=mK (fun W (e:Ext w W)=>Aa9 _ q W (nT k2 (by decide)) (f2.ext e));rw [show mayO kd (some p) (some q)=mayS kd p.num.sign q.num.sign from rfl];generalize p.num.sign=sp at *;generalize q.num.sign=sq at *;clear hb h1 h2 f1 f2 k1 k2;by_cases k1:kd=1
  ·have d1:(kd==1)=true:=(by simp [k1])
   replace k1:=mK k1;by_cases hs:0≤sp
   ·have e1:decide (0≤sp)=true:=by simp [hs]
    go_enter Tryz.func154,Tryz.ntmps154;have tok:Tok 4:=.mk _
    go_wp2_with (first
     | (replace tok:Tok 5:=nxT 4 tok;rw [←hwb.out];refine Ab (by rfl) 54 (.tmp 3) rfl (w.heap.size) 1 rfl 56 #[.int .u8 kd,.bool b1,.slice a1 n1 c1,.bool b2,.slice a2 n2 c2,.bool b3,.slice a3 n3 c3,.bool b4,.slice a4 n4 c4] #[.bool b1,.slice a1 n1 c1,.bool b2,.slice a2 n2 c2] (0,0) _ z0.out rfl Tryz.underlying54 rfl (by kernel_rfl) ?_)
     | (replace tok:Tok 6:=nxT 5 tok;refine Ab (by rfl) 54 (.tmp 5) rfl (w.heap.size) 5 rfl 56 #[.int .u8 kd,.bool b1,.slice a1 n1 c1,.bool b2,.slice a2 n2 c2,.bool b3,.slice a3 n3 c3,.bool b4,.slice a4 n4 c4] #[.bool b3,.slice a3 n3 c3,.bool b4,.slice a4 n4 c4] (0,0) _ z0.out rfl Tryz.underlying54 rfl (by kernel_rfl) ?_)
     | (replace tok:Tok 7:=nxT 6 tok;go_at_call 195;rw [←hw2.out,hsz.out];refine HC.out.mono ?_;rintro e w3 ⟨rfl,hx⟩;replace hE:=mK (hE.out.trans hx);replace z0:=mK (hx.blk z02.out);have y0:=Aa z0.out 0;replace y0:w3.cell? ⟨w.heap.size,0,none⟩=some (.int .u8 _):=y0;clear hx z02)
     | (replace tok:Tok 8:=nxT 7 tok;refine Ab (by rfl) 54 (.tmp 14) rfl (w.heap.size) 1 rfl 56 #[.int .u8 kd,.bool b1,.slice a1 n1 c1,.bool b2,.slice a2 n2 c2,.bool b3,.slice a3 n3 c3,.bool b4,.slice a4 n4 c4] #[.bool b1,.slice a1 n1 c1,.bool b2,.slice a2 n2 c2] (0,0) _ z0.out rfl Tryz.underlying54 rfl (by kernel_rfl) ?_)
     | (replace tok:Tok 9:=nxT 8 tok;go_at_call 178;refine (S1.out _ hE.out).mono ?_;rintro e v1 ⟨rfl,hx⟩;replace hE:=mK (hE.out.trans hx);replace z0:=mK (hx.blk z0.out);clear hx)
     | (replace tok:Tok 10:=nxT 9 tok;refine Cv (by rfl) 54 (.tmp 19) rfl (w.heap.size) 5 rfl 56 #[.int .u8 kd,.bool b1,.slice a1 n1 c1,.bool b2,.slice a2 n2 c2,.bool b3,.slice a3 n3 c3,.bool b4,.slice a4 n4 c4] #[.bool b3,.slice a3 n3 c3,.bool b4,.slice a4 n4 c4] (0,0) _ z0.out rfl Tryz.underlying54 rfl (by kernel_rfl) ?_)
     | (replace tok:Tok 11:=nxT 10 tok;go_at_call 196;refine (Z2.out _ hE.out).mono ?_;rintro e v2 ⟨rfl,hx⟩;replace hE:=mK (hE.out.trans hx);replace z0:=mK (hx.blk z0.out);clear hx))
    go_ret;exact ⟨by simp [mayS,k1.out,hs],hE.out⟩
   ·have e1:decide (0≤sp)=false:=by simp [hs]
    go_enter Tryz.func154,Tryz.ntmps154;have tok:Tok 12:=.mk _
    go_wp2_with (first
     | (replace tok:Tok 13:=nxT 12 tok;rw [←hwb.out];refine Ab (by rfl) 54 (.tmp 3) rfl (w.heap.size) 1 rfl 56 #[.int .u8 kd,.bool b1,.slice a1 n1 c1,.bool b2,.slice a2 n2 c2,.bool b3,.slice a3 n3 c3,.bool b4,.slice a4 n4 c4] #[.bool b1,.slice a1 n1 c1,.bool b2,.slice a2 n2 c2] (0,0) _ z0.out rfl Tryz.underlying54 rfl (by kernel_rfl) ?_)
     | (replace tok:Tok 14:=nxT 13 tok;refine Ab (by rfl) 54 (.tmp 5) rfl (w.heap.size) 5 rfl 56 #[.int .u8 kd,.bool b1,.slice a1 n1 c1,.bool b2,.slice a2 n2 c2,.bool b3,.slice a3 n3 c3,.bool b4,.slice a4 n4 c4] #[.bool b3,.slice a3 n3 c3,.bool b4,.slice a4 n4 c4] (0,0) _ z0.out rfl Tryz.underlying54 rfl (by kernel_rfl) ?_)
     | (replace tok:Tok 15:=nxT 14 tok;go_at_call 195;rw [←hw2.out,hsz.out];refine HC.out.mono ?_;rintro e w3 ⟨rfl,hx⟩;replace hE:=mK (hE.out.trans hx);replace z0:=mK (hx.blk z02.out);have y0:=Aa z0.out 0;replace y0:w3.cell? ⟨w.heap.size,0,none⟩=some (.int .u8 _):=y0;clear hx z02)
     | (replace tok:Tok 16:=nxT 15 tok;refine Ab (by rfl) 54 (.tmp 14) rfl (w.heap.size) 1 rfl 56 #[.int .u8 kd,.bool b1,.slice a1 n1 c1,.bool b2,.slice a2 n2 c2,.bool b3,.slice a3 n3 c3,.bool b4,.slice a4 n4 c4] #[.bool b1,.slice a1 n1 c1,.bool b2,.slice a2 n2 c2] (0,0) _ z0.out rfl Tryz.underlying54 rfl (by kernel_rfl) ?_)
     | (replace tok:Tok 17:=nxT 16 tok;go_at_call 178;refine (S1.out _ hE.out).mono ?_;rintro e v3 ⟨rfl,hx⟩;replace hE:=mK (hE.out.trans hx);replace z0:=mK (hx.blk z0.out);clear hx))
    go_ret;exact ⟨by simp [mayS,k1.out];intro h;omega,hE.out⟩
  by_cases k2:kd=2
  ·have d1:(kd==1)=false:=(by simp [k2]);have d2:(kd==2)=true:=(by simp [k2])
   replace k2:=mK k2;go_enter Tryz.func154,Tryz.ntmps154;have tok:Tok 18:=.mk _
   go_wp2_with (first
    | (replace tok:Tok 19:=nxT 18 tok;rw [←hwb.out];refine Ab (by rfl) 54 (.tmp 3) rfl (w.heap.size) 1 rfl 56 #[.int .u8 kd,.bool b1,.slice a1 n1 c1,.bool b2,.slice a2 n2 c2,.bool b3,.slice a3 n3 c3,.bool b4,.slice a4 n4 c4] #[.bool b1,.slice a1 n1 c1,.bool b2,.slice a2 n2 c2] (0,0) _ z0.out rfl Tryz.underlying54 rfl (by kernel_rfl) ?_)
    | (replace tok:Tok 20:=nxT 19 tok;refine Ab (by rfl) 54 (.tmp 5) rfl (w.heap.size) 5 rfl 56 #[.int .u8 kd,.bool b1,.slice a1 n1 c1,.bool b2,.slice a2 n2 c2,.bool b3,.slice a3 n3 c3,.bool b4,.slice a4 n4 c4] #[.bool b3,.slice a3 n3 c3,.bool b4,.slice a4 n4 c4] (0,0) _ z0.out rfl Tryz.underlying54 rfl (by kernel_rfl) ?_)
    | (replace tok:Tok 21:=nxT 20 tok;go_at_call 195;rw [←hw2.out,hsz.out];refine HC.out.mono ?_;rintro e w3 ⟨rfl,hx⟩;replace hE:=mK (hE.out.trans hx);replace z0:=mK (hx.blk z02.out);have y0:=Aa z0.out 0;replace y0:w3.cell? ⟨w.heap.size,0,none⟩=some (.int .u8 _):=y0;clear hx z02)
    | (replace tok:Tok 22:=nxT 21 tok;refine Ab (by rfl) 54 (.tmp 25) rfl (w.heap.size) 5 rfl 56 #[.int .u8 kd,.bool b1,.slice a1 n1 c1,.bool b2,.slice a2 n2 c2,.bool b3,.slice a3 n3 c3,.bool b4,.slice a4 n4 c4] #[.bool b3,.slice a3 n3 c3,.bool b4,.slice a4 n4 c4] (0,0) _ z0.out rfl Tryz.underlying54 rfl (by kernel_rfl) ?_)
    | (replace tok:Tok 23:=nxT 22 tok;go_at_call 196;refine (Z2.out _ hE.out).mono ?_;rintro e v4 ⟨rfl,hx⟩;replace hE:=mK (hE.out.trans hx);replace z0:=mK (hx.blk z0.out);clear hx))
   go_ret;exact ⟨by simp [mayS,k2.out],hE.out⟩
  by_cases k3:kd=3
  ·have d1:(kd==1)=false:=(by simp [k3]);have d2:(kd==2)=false:=(by simp [k3]);have d3:(kd==3)=true:=(by simp [k3])
   replace k3:=mK k3;by_cases hs:0≤sp
   ·have e1:decide (0≤sp)=true:=by simp [hs]
    go_enter Tryz.func154,Tryz.ntmps154;have tok:Tok 24:=.mk _
    go_wp2_with (first
     | (replace tok:Tok 25:=nxT 24 tok;rw [←hwb.out];refine Ab (by rfl) 54 (.tmp 3) rfl (w.heap.size) 1 rfl 56 #[.int .u8 kd,.bool b1,.slice a1 n1 c1,.bool b2,.slice a2 n2 c2,.bool b3,.slice a3 n3 c3,.bool b4,.slice a4 n4 c4] #[.bool b1,.slice a1 n1 c1,.bool b2,.slice a2 n2 c2] (0,0) _ z0.out rfl Tryz.underlying54 rfl (by kernel_rfl) ?_)
     | (replace tok:Tok 26:=nxT 25 tok;refine Ab (by rfl) 54 (.tmp 5) rfl (w.heap.size) 5 rfl 56 #[.int .u8 kd,.bool b1,.slice a1 n1 c1,.bool b2,.slice a2 n2 c2,.bool b3,.slice a3 n3 c3,.bool b4,.slice a4 n4 c4] #[.bool b3,.slice a3 n3 c3,.bool b4,.slice a4 n4 c4] (0,0) _ z0.out rfl Tryz.underlying54 rfl (by kernel_rfl) ?_)
     | (replace tok:Tok 27:=nxT 26 tok;go_at_call 195;rw [←hw2.out,hsz.out];refine HC.out.mono ?_;rintro e w3 ⟨rfl,hx⟩;replace hE:=mK (hE.out.trans hx);replace z0:=mK (hx.blk z02.out);have y0:=Aa z0.out 0;replace y0:w3.cell? ⟨w.heap.size,0,none⟩=some (.int .u8 _):=y0;clear hx z02)
     | (replace tok:Tok 28:=nxT 27 tok;refine Ab (by rfl) 54 (.tmp 30) rfl (w.heap.size) 1 rfl 56 #[.int .u8 kd,.bool b1,.slice a1 n1 c1,.bool b2,.slice a2 n2 c2,.bool b3,.slice a3 n3 c3,.bool b4,.slice a4 n4 c4] #[.bool b1,.slice a1 n1 c1,.bool b2,.slice a2 n2 c2] (0,0) _ z0.out rfl Tryz.underlying54 rfl (by kernel_rfl) ?_)
     | (replace tok:Tok 29:=nxT 28 tok;go_at_call 178;refine (S1.out _ hE.out).mono ?_;rintro e v5 ⟨rfl,hx⟩;replace hE:=mK (hE.out.trans hx);replace z0:=mK (hx.blk z0.out);clear hx)
     | (replace tok:Tok 30:=nxT 29 tok;refine Cv (by rfl) 54 (.tmp 35) rfl (w.heap.size) 5 rfl 56 #[.int .u8 kd,.bool b1,.slice a1 n1 c1,.bool b2,.slice a2 n2 c2,.bool b3,.slice a3 n3 c3,.bool b4,.slice a4 n4 c4] #[.bool b3,.slice a3 n3 c3,.bool b4,.slice a4 n4 c4] (0,0) _ z0.out rfl Tryz.underlying54 rfl (by kernel_rfl) ?_)
     | (replace tok:Tok 31:=nxT 30 tok;go_at_call 178;refine (S2.out _ hE.out).mono ?_;rintro e v6 ⟨rfl,hx⟩;replace hE:=mK (hE.out.trans hx);replace z0:=mK (hx.blk z0.out);clear hx))
    go_ret;exact ⟨by simp [mayS,k3.out,hs],hE.out⟩
   ·have e1:decide (0≤sp)=false:=by simp [hs]
    go_enter Tryz.func154,Tryz.ntmps154;have tok:Tok 32:=.mk _
    go_wp2_with (first
     | (replace tok:Tok 33:=nxT 32 tok;rw [←hwb.out];refine Ab (by rfl) 54 (.tmp 3) rfl (w.heap.size) 1 rfl 56 #[.int .u8 kd,.bool b1,.slice a1 n1 c1,.bool b2,.slice a2 n2 c2,.bool b3,.slice a3 n3 c3,.bool b4,.slice a4 n4 c4] #[.bool b1,.slice a1 n1 c1,.bool b2,.slice a2 n2 c2] (0,0) _ z0.out rfl Tryz.underlying54 rfl (by kernel_rfl) ?_)
     | (replace tok:Tok 34:=nxT 33 tok;refine Ab (by rfl) 54 (.tmp 5) rfl (w.heap.size) 5 rfl 56 #[.int .u8 kd,.bool b1,.slice a1 n1 c1,.bool b2,.slice a2 n2 c2,.bool b3,.slice a3 n3 c3,.bool b4,.slice a4 n4 c4] #[.bool b3,.slice a3 n3 c3,.bool b4,.slice a4 n4 c4] (0,0) _ z0.out rfl Tryz.underlying54 rfl (by kernel_rfl) ?_)
     | (replace tok:Tok 35:=nxT 34 tok;go_at_call 195;rw [←hw2.out,hsz.out];refine HC.out.mono ?_;rintro e w3 ⟨rfl,hx⟩;replace hE:=mK (hE.out.trans hx);replace z0:=mK (hx.blk z02.out);have y0:=Aa z0.out 0;replace y0:w3.cell? ⟨w.heap.size,0,none⟩=some (.int .u8 _):=y0;clear hx z02)
     | (replace tok:Tok 36:=nxT 35 tok;refine Ab (by rfl) 54 (.tmp 30) rfl (w.heap.size) 1 rfl 56 #[.int .u8 kd,.bool b1,.slice a1 n1 c1,.bool b2,.slice a2 n2 c2,.bool b3,.slice a3 n3 c3,.bool b4,.slice a4 n4 c4] #[.bool b1,.slice a1 n1 c1,.bool b2,.slice a2 n2 c2] (0,0) _ z0.out rfl Tryz.underlying54 rfl (by kernel_rfl) ?_)
     | (replace tok:Tok 37:=nxT 36 tok;go_at_call 178;refine (S1.out _ hE.out).mono ?_;rintro e v7 ⟨rfl,hx⟩;replace hE:=mK (hE.out.trans hx);replace z0:=mK (hx.blk z0.out);clear hx))
    go_ret;exact ⟨by simp [mayS,k3.out];intro h;omega,hE.out⟩
  by_cases k4:kd=4
  ·have d1:(kd==1)=false:=(by simp [k4]);have d2:(kd==2)=false:=(by simp [k4]);have d3:(kd==3)=false:=(by simp [k4]);have d4:(kd==4)=true:=(by simp [k4])
   replace k4:=mK k4;go_enter Tryz.func154,Tryz.ntmps154;have tok:Tok 38:=.mk _
   go_wp2_with (first
    | (replace tok:Tok 39:=nxT 38 tok;rw [←hwb.out];refine Ab (by rfl) 54 (.tmp 3) rfl (w.heap.size) 1 rfl 56 #[.int .u8 kd,.bool b1,.slice a1 n1 c1,.bool b2,.slice a2 n2 c2,.bool b3,.slice a3 n3 c3,.bool b4,.slice a4 n4 c4] #[.bool b1,.slice a1 n1 c1,.bool b2,.slice a2 n2 c2] (0,0) _ z0.out rfl Tryz.underlying54 rfl (by kernel_rfl) ?_)
    | (replace tok:Tok 40:=nxT 39 tok;refine Ab (by rfl) 54 (.tmp 5) rfl (w.heap.size) 5 rfl 56 #[.int .u8 kd,.bool b1,.slice a1 n1 c1,.bool b2,.slice a2 n2 c2,.bool b3,.slice a3 n3 c3,.bool b4,.slice a4 n4 c4] #[.bool b3,.slice a3 n3 c3,.bool b4,.slice a4 n4 c4] (0,0) _ z0.out rfl Tryz.underlying54 rfl (by kernel_rfl) ?_)
    | (replace tok:Tok 41:=nxT 40 tok;go_at_call 195;rw [←hw2.out,hsz.out];refine HC.out.mono ?_;rintro e w3 ⟨rfl,hx⟩;replace hE:=mK (hE.out.trans hx);replace z0:=mK (hx.blk z02.out);have y0:=Aa z0.out 0;replace y0:w3.cell? ⟨w.heap.size,0,none⟩=some (.int .u8 _):=y0;clear hx z02))
   go_ret;exact ⟨by simp [mayS,k4.out],hE.out⟩
  by_cases k5:kd=5
  ·have d1:(kd==1)=false:=(by simp [k5]);have d2:(kd==2)=false:=(by simp [k5]);have d3:(kd==3)=false:=(by simp [k5]);have d4:(kd==4)=false:=(by simp [k5]);have d5:(kd==5)=true:=(by simp [k5])
   replace k5:=mK k5;by_cases hs:sp=0
   ·subst hs
    go_enter Tryz.func154,Tryz.ntmps154;have tok:Tok 42:=.mk _
    go_wp2_with (first
     | (replace tok:Tok 43:=nxT 42 tok;rw [←hwb.out];refine Ab (by rfl) 54 (.tmp 3) rfl (w.heap.size) 1 rfl 56 #[.int .u8 kd,.bool b1,.slice a1 n1 c1,.bool b2,.slice a2 n2 c2,.bool b3,.slice a3 n3 c3,.bool b4,.slice a4 n4 c4] #[.bool b1,.slice a1 n1 c1,.bool b2,.slice a2 n2 c2] (0,0) _ z0.out rfl Tryz.underlying54 rfl (by kernel_rfl) ?_)
     | (replace tok:Tok 44:=nxT 43 tok;refine Ab (by rfl) 54 (.tmp 5) rfl (w.heap.size) 5 rfl 56 #[.int .u8 kd,.bool b1,.slice a1 n1 c1,.bool b2,.slice a2 n2 c2,.bool b3,.slice a3 n3 c3,.bool b4,.slice a4 n4 c4] #[.bool b3,.slice a3 n3 c3,.bool b4,.slice a4 n4 c4] (0,0) _ z0.out rfl Tryz.underlying54 rfl (by kernel_rfl) ?_)
     | (replace tok:Tok 45:=nxT 44 tok;go_at_call 195;rw [←hw2.out,hsz.out];refine HC.out.mono ?_;rintro e w3 ⟨rfl,hx⟩;replace hE:=mK (hE.out.trans hx);replace z0:=mK (hx.blk z02.out);have y0:=Aa z0.out 0;replace y0:w3.cell? ⟨w.heap.size,0,none⟩=some (.int .u8 _):=y0;clear hx z02)
     | (replace tok:Tok 46:=nxT 45 tok;refine Ab (by rfl) 54 (.tmp 44) rfl (w.heap.size) 1 rfl 56 #[.int .u8 kd,.bool b1,.slice a1 n1 c1,.bool b2,.slice a2 n2 c2,.bool b3,.slice a3 n3 c3,.bool b4,.slice a4 n4 c4] #[.bool b1,.slice a1 n1 c1,.bool b2,.slice a2 n2 c2] (0,0) _ z0.out rfl Tryz.underlying54 rfl (by kernel_rfl) ?_)
     | (replace tok:Tok 47:=nxT 46 tok;go_at_call 196;refine (Z1.out _ hE.out).mono ?_;rintro e v8 ⟨rfl,hx⟩;replace hE:=mK (hE.out.trans hx);replace z0:=mK (hx.blk z0.out);clear hx)
     | (replace tok:Tok 48:=nxT 47 tok;refine Cv (by rfl) 54 (.tmp 48) rfl (w.heap.size) 5 rfl 56 #[.int .u8 kd,.bool b1,.slice a1 n1 c1,.bool b2,.slice a2 n2 c2,.bool b3,.slice a3 n3 c3,.bool b4,.slice a4 n4 c4] #[.bool b3,.slice a3 n3 c3,.bool b4,.slice a4 n4 c4] (0,0) _ z0.out rfl Tryz.underlying54 rfl (by kernel_rfl) ?_)
     | (replace tok:Tok 49:=nxT 48 tok;go_at_call 196;refine (Z2.out _ hE.out).mono ?_;rintro e v9 ⟨rfl,hx⟩;replace hE:=mK (hE.out.trans hx);replace z0:=mK (hx.blk z0.out);clear hx))
    go_ret;exact ⟨by simp [mayS,k5.out],hE.out⟩
   ·have e1:(sp==0)=false:=by simpa using hs
    go_enter Tryz.func154,Tryz.ntmps154;have tok:Tok 50:=.mk _
    go_wp2_with (first
     | (replace tok:Tok 51:=nxT 50 tok;rw [←hwb.out];refine Ab (by rfl) 54 (.tmp 3) rfl (w.heap.size) 1 rfl 56 #[.int .u8 kd,.bool b1,.slice a1 n1 c1,.bool b2,.slice a2 n2 c2,.bool b3,.slice a3 n3 c3,.bool b4,.slice a4 n4 c4] #[.bool b1,.slice a1 n1 c1,.bool b2,.slice a2 n2 c2] (0,0) _ z0.out rfl Tryz.underlying54 rfl (by kernel_rfl) ?_)
     | (replace tok:Tok 52:=nxT 51 tok;refine Ab (by rfl) 54 (.tmp 5) rfl (w.heap.size) 5 rfl 56 #[.int .u8 kd,.bool b1,.slice a1 n1 c1,.bool b2,.slice a2 n2 c2,.bool b3,.slice a3 n3 c3,.bool b4,.slice a4 n4 c4] #[.bool b3,.slice a3 n3 c3,.bool b4,.slice a4 n4 c4] (0,0) _ z0.out rfl Tryz.underlying54 rfl (by kernel_rfl) ?_)
     | (replace tok:Tok 53:=nxT 52 tok;go_at_call 195;rw [←hw2.out,hsz.out];refine HC.out.mono ?_;rintro e w3 ⟨rfl,hx⟩;replace hE:=mK (hE.out.trans hx);replace z0:=mK (hx.blk z02.out);have y0:=Aa z0.out 0;replace y0:w3.cell? ⟨w.heap.size,0,none⟩=some (.int .u8 _):=y0;clear hx z02)
     | (replace tok:Tok 54:=nxT 53 tok;refine Ab (by rfl) 54 (.tmp 44) rfl (w.heap.size) 1 rfl 56 #[.int .u8 kd,.bool b1,.slice a1 n1 c1,.bool b2,.slice a2 n2 c2,.bool b3,.slice a3 n3 c3,.bool b4,.slice a4 n4 c4] #[.bool b1,.slice a1 n1 c1,.bool b2,.slice a2 n2 c2] (0,0) _ z0.out rfl Tryz.underlying54 rfl (by kernel_rfl) ?_)
     | (replace tok:Tok 55:=nxT 54 tok;go_at_call 196;refine (Z1.out _ hE.out).mono ?_;rintro e v10 ⟨rfl,hx⟩;replace hE:=mK (hE.out.trans hx);replace z0:=mK (hx.blk z0.out);clear hx))
    go_ret;exact ⟨by simp [mayS,k5.out,hs],hE.out⟩
  have d1:(kd==1)=false:=by simpa using k1
  have d2:(kd==2)=false:=by simpa using k2
  have d3:(kd==3)=false:=by simpa using k3
  have d4:(kd==4)=false:=by simpa using k4
  have d5:(kd==5)=false:=by simpa using k5
  go_enter Tryz.func154,Tryz.ntmps154;have tok:Tok 56:=.mk _
  go_wp2_with (first
   | (replace tok:Tok 57:=nxT 56 tok;rw [←hwb.out];refine Ab (by rfl) 54 (.tmp 3) rfl (w.heap.size) 1 rfl 56 #[.int .u8 kd,.bool b1,.slice a1 n1 c1,.bool b2,.slice a2 n2 c2,.bool b3,.slice a3 n3 c3,.bool b4,.slice a4 n4 c4] #[.bool b1,.slice a1 n1 c1,.bool b2,.slice a2 n2 c2] (0,0) _ z0.out rfl Tryz.underlying54 rfl (by kernel_rfl) ?_)
   | (replace tok:Tok 58:=nxT 57 tok;refine Ab (by rfl) 54 (.tmp 5) rfl (w.heap.size) 5 rfl 56 #[.int .u8 kd,.bool b1,.slice a1 n1 c1,.bool b2,.slice a2 n2 c2,.bool b3,.slice a3 n3 c3,.bool b4,.slice a4 n4 c4] #[.bool b3,.slice a3 n3 c3,.bool b4,.slice a4 n4 c4] (0,0) _ z0.out rfl Tryz.underlying54 rfl (by kernel_rfl) ?_)
   | (replace tok:Tok 59:=nxT 58 tok;go_at_call 195;rw [←hw2.out,hsz.out];refine HC.out.mono ?_;rintro e w3 ⟨rfl,hx⟩;replace hE:=mK (hE.out.trans hx);replace z0:=mK (hx.blk z02.out);have y0:=Aa z0.out 0;replace y0:w3.cell? ⟨w.heap.size,0,none⟩=some (.int .u8 _):=y0;clear hx z02))
  go_ret;exact ⟨by simp [mayS,k1,k2,k3,k4,k5],hE.out⟩
theorem Pq (nm:ByteArray)(kd co:Int)(b1:Bool)(a1:Option Addr)(n1 c1:Nat)(b2:Bool)(a2:Option Addr)(n2 c2:Nat)(b3:Bool)(a3:Option Addr)(n3 c3:Nat)(b4:Bool)(a4:Option Addr)(n4 c4:Nat)(op oq:Option Rat)(w:World)(h1:AnyF w (.agg #[.bool b1,.slice a1 n1 c1,.bool b2,.slice a2 n2 c2]) op)(h2:AnyF w (.agg #[.bool b3,.slice a3 n3 c3,.bool b4,.slice a4 n4 c4]) oq) :
  Calls Tryz.prog 87 #[.agg #[.string nm,.int .u8 kd,.bool b1,.slice a1 n1 c1,.bool b2,.slice a2 n2 c2,.bool b3,.slice a3 n3 c3,.bool b4,.slice a4 n4 c4,.int .i64 co]] w fun e w'=>e=.returned (.bool (mayP kd co op oq))∧Ext w w':=by
 have M:=fun W (e:Ext w W)=>Ahm kd b1 a1 n1 c1 b2 a2 n2 c2 b3 a3 n3 c3 b4 a4 n4 c4 op oq W (h1.ext e) (h2.ext e);have y10:∀ W,Ext (w.alloc (.cells #[.string nm,.int .u8 kd,.bool b1,.slice a1 n1 c1,.bool b2,.slice a2 n2 c2,.bool b3,.slice a3 n3 c3,.bool b4,.slice a4 n4 c4,.int .i64 co] 58)) W→W.cell? ⟨w.heap.size,10,none⟩=some (.int .i64 co):=fun W e=>Aa (e.blk (heap_alloc_new _ _)) 10;clear h1 h2;cases hm:mayO kd op oq<;>rw [hm] at M
 ·have ev:mayP kd co op oq=false:=by simp [mayP,hm]
  rw [ev];clear ev hm y10;replace M:=mK M;go_enter Tryz.func87,Tryz.ntmps87;go_wp2_with (go_at_call 154;refine (M.out _ ((xR w).al _)).mono ?_;rintro e w2 ⟨rfl,hx⟩;have hE:=mK (((xR w).al _).trans hx);clear hx);go_ret;exact ⟨rfl,hE.out⟩
 ·have ev:mayP kd co op oq=(decide (0≤co)&&decide (co≤1073741824)):=by simp [mayP,hm]
  rw [ev];clear ev hm;replace M:=mK M;by_cases cc1:0≤co
  ·by_cases cc2:co≤1073741824
   all_goals
    go_enter Tryz.func87,Tryz.ntmps87;go_wp2_with (go_at_call 154;refine (M.out _ ((xR w).al _)).mono ?_;rintro e w2 ⟨rfl,hx⟩;have y10:=y10 _ hx;have hE:=mK (((xR w).al _).trans hx);clear hx);go_ret;exact ⟨by simp [cc1,cc2]<;>omega,hE.out⟩
  ·go_enter Tryz.func87,Tryz.ntmps87
   go_wp2_with (go_at_call 154;refine (M.out _ ((xR w).al _)).mono ?_;rintro e w2 ⟨rfl,hx⟩;have y10:=y10 _ hx;have hE:=mK (((xR w).al _).trans hx);clear hx);go_ret;exact ⟨by simp;intro h;omega,hE.out⟩
end Go.Proofs.YteogdoglboddhaaGreatDoor
namespace Go.Proofs.YteogdoglboddhaaGreatDoor
set_option maxRecDepth 100000
open Go Go.RowKit Go.Proofs Go.Shelf Go.Lib
def cutset:List UInt8:=[97,98,99,100,101,102,103,104,105,106,107,108,109,110,111,112,113,114,115,116,117,118,119,120,121,122,48,49,50,51,52,53,54,55,56,57,45]
def nameC (c:UInt8):Bool:=(decide (97≤c.toNat)&&decide (c.toNat≤122))||(decide (48≤c.toNat)&&decide (c.toNat≤57))||c.toNat==45
theorem Uw (c:UInt8):cutset.contains c=nameC c:=by
 have h:∀ n:Fin 256,cutset.contains (UInt8.ofNat n.val)=nameC (UInt8.ofNat n.val):=by decide +kernel
 have:=h ⟨c.toNat,c.toNat_lt⟩;simpa using this
def Co (l:List UInt8):Bool:=decide (0<l.length)&&(decide (l.length≤32)&&(decide (97≤(l.headD 0).toNat)&&(decide ((l.headD 0).toNat≤122)&&l.all nameC)))
theorem Af3 {p:UInt8→Bool}:∀ l:List UInt8,(∀ x∈l.dropWhile p,p x=true)→l.dropWhile p=[]
 | [],_=>rfl
 | a::l,h=>by
  by_cases ha:p a=true
  ·rw [List.dropWhile_cons_of_pos ha] at h ⊢
   exact Af3 l h
  ·rw [List.dropWhile_cons_of_neg ha] at h
   exact absurd (h a (by simp)) ha
theorem Uv {p:UInt8→Bool}:∀ l:List UInt8,l.dropWhile p=[]↔∀ x∈l,p x=true
 | []=>by simp
 | a::l=>by
  by_cases ha:p a=true
  ·rw [List.dropWhile_cons_of_pos ha,Uv l]
   simp [ha]
  ·rw [List.dropWhile_cons_of_neg ha]
   simp [ha]
theorem Ab5 (l:List UInt8):(Lib.trimS l cutset=[])↔l.all nameC=true:=by
 have e:(fun c=>cutset.contains c)=nameC:=funext Uw;unfold Lib.trimS Lib.trimRightS Lib.trimLeftS;rw [e,Uv];constructor
 ·intro h
  have h2:=Af3 (p:=nameC) l.reverse fun x hx=>h x (List.mem_reverse.2 hx);rw [Uv] at h2;exact List.all_eq_true.2 fun x hx=>h2 x (List.mem_reverse.2 hx)
 ·intro h x hx
  have h2:l.reverse.dropWhile nameC=[]:=(Uv _).2 fun y hy=>List.all_eq_true.1 h y (List.mem_reverse.1 hy);rw [h2] at hx;cases hx
theorem Agy (s:ByteArray)(w:World)(hs:s.size≤9223372036854775807) :
  Calls Tryz.prog 156 #[.string s,.string ⟨#[97,98,99,100,101,102,103,104,105,106,107,108,109,110,111,112,113,114,115,116,117,118,119,120,121,122,48,49,50,51,52,53,54,55,56,57,45]⟩] w fun e w'=>e=.returned (.string ⟨(Lib.trimS s.data.toList cutset).toArray⟩)∧Below w.heap.size w w':=by
 have hcon:=Any.strings_Trim_laid Tryz.lays160 (by kernel_rfl) s ⟨#[97,98,99,100,101,102,103,104,105,106,107,108,109,110,111,112,113,114,115,116,117,118,119,120,121,122,48,49,50,51,52,53,54,55,56,57,45]⟩ w hs (by decide) (ascii_of_all (by decide));exact hcon
theorem Ld (s:ByteArray)(w:World)(hs:s.size≤9223372036854775807) :
  Calls Tryz.prog 90 #[.string s] w fun e w'=>e=.returned (.bool (Co s.data.toList))∧Ext w w':=by
 have T:=Agy s w hs;have e1:=Ab5 s.data.toList;have hsz:s.data.toList.length=s.size:=Array.length_toList;generalize Lib.trimS s.data.toList cutset=r at T e1;unfold Co;rw [hsz];by_cases c1:0<s.size
 ·have hd:s.data.toList.headD 0=s[0]:=by
   obtain ⟨⟨l⟩⟩:=s;cases l with
   | nil=>simp [ByteArray.size] at c1
   | cons a l=>rfl
  rw [hd];clear hd hsz;by_cases c2:s.size≤32
  ·by_cases c3:97≤s[0].toNat
   ·by_cases c4:s[0].toNat≤122
    ·cases hall:s.data.toList.all nameC
     ·have hr:r≠[]:=fun h=>by rw [e1.1 h] at hall;cases hall
      clear e1 hall;replace T:=mK T;go_enter Tryz.func90,Tryz.ntmps90;go_wp2_with (go_at_call 156;refine T.out.mono ?_;rintro e w2 ⟨rfl,hx⟩;replace hx:=mK hx);go_ret;exact ⟨by simp [c1,c2,c3,c4,hr],hx.out⟩
     ·have hr:r=[]:=e1.2 hall
      subst hr;clear e1 hall;replace T:=mK T;go_enter Tryz.func90,Tryz.ntmps90;go_wp2_with (go_at_call 156;refine T.out.mono ?_;rintro e w2 ⟨rfl,hx⟩;replace hx:=mK hx);go_ret;exact ⟨by simp [c1,c2,c3,c4],hx.out⟩
    ·clear T e1
     go_enter Tryz.func90,Tryz.ntmps90;go_wp2_with fail;go_ret;exact ⟨by first|simp|simp [c1,c2,c3,c4],xR _⟩
   ·clear T e1
    go_enter Tryz.func90,Tryz.ntmps90;go_wp2_with fail;go_ret;exact ⟨by first|simp|simp [c1,c2,c3],xR _⟩
  ·clear T e1
   go_enter Tryz.func90,Tryz.ntmps90;go_wp2_with fail;go_ret;exact ⟨by first|simp|simp [c1,c2],xR _⟩
 ·clear T e1 hsz
  go_enter Tryz.func90,Tryz.ntmps90;go_wp2_with fail;go_ret;exact ⟨by simp [c1],xR _⟩
end Go.Proofs.YteogdoglboddhaaGreatDoor
namespace Go.Proofs.YteogdoglboddhaaGreatDoor
set_option maxRecDepth 100000
open Go Go.RowKit Go.Proofs
theorem Row.near {w w':World}{a:Option Addr}{xs:List Value}(h:Row w a xs)(e:∀ g,a.map (·.block)=some g→w'.heap[g]? = w.heap[g]?):Row w' a xs:=by
 obtain ⟨b,off,h1,h2⟩:=h;by_cases hx:xs=[]
 ·subst hx
  exact ⟨b,off,h1,fun j hj=>by simp at hj⟩
 ·have ha:=h1 hx
  refine ⟨b,off,h1,fun j hj=>?_⟩;have hb:=e b (by rw [ha];rfl);rw [←h2 j hj];exact World.cell?_of_block hb
theorem Uy {b:Bool}{a:Option Addr}{n c g:Nat}(h:a.map (·.block)=some g):g∈Aloof.blks (.agg #[.bool b,.slice a n c]):=by
 cases a with
 | none=>cases h
 | some a=>simpa [Aloof.blks,Aloof.blk1,Value.cells,eq_comm] using h
theorem IntR.near {w w':World}{v:Value}{x:Int}(h:IntR w v x)(e:∀ g∈Aloof.blks v,w'.heap[g]? = w.heap[g]?):IntR w' v x:=by
 obtain ⟨s,rfl,a,c,rfl,h1,h2⟩:=h;exact ⟨_,rfl,_,_,rfl,h1,h2.near fun g hg=>e g (Uy hg)⟩
theorem FracR.near {w w':World}{v:Value}{q:Rat}(h:FracR w v q)(e:∀ g∈Aloof.blks v,w'.heap[g]? = w.heap[g]?):FracR w' v q:=by
 obtain ⟨b1,a1,n1,c1,b2,a2,n2,c2,rfl,h1,h2⟩:=h;rw [Ei] at e;exact ⟨_,_,_,_,_,_,_,_,rfl,h1.near fun g hg=>e g (List.mem_append_left _ hg),h2.near fun g hg=>e g (List.mem_append_right _ hg)⟩
theorem PartR.near {w w':World}{v:Value}{d:PD}(h:PartR w v d)(e:∀ g∈Aloof.blks v,w'.heap[g]? = w.heap[g]?):PartR w' v d:=by
 obtain ⟨b1,a1,n1,c1,b2,a2,n2,c2,b3,a3,n3,c3,b4,a4,n4,c4,rfl,h1,h2⟩:=h;rw [Fj] at e;exact ⟨_,_,_,_,_,_,_,_,_,_,_,_,_,_,_,_,rfl,h1.near fun g hg=>e g (List.mem_append_left _ hg),h2.near fun g hg=>e g (List.mem_append_right _ hg)⟩
theorem MagO.near {w w':World}{base:Nat}{a:Option Addr}{n c:Nat}{l:List Nat}(h:MagO w base (.slice a n c) l)(e:∀ g,a.map (·.block)=some g→w'.heap[g]? = w.heap[g]?):MagO w' base (.slice a n c) l:=by
 obtain ⟨h1,h|⟨g,cap,cur,e1,h2,h3,r⟩⟩:=h
 ·exact ⟨h1,.inl h⟩
 ·cases e1
  exact ⟨h1,.inr ⟨g,_,cur,rfl,h2,(e g rfl).trans h3,r⟩⟩
theorem IntO.near {w w':World}{base:Nat}{v:Value}{x:Int}(h:IntO w base v x)(e:∀ g∈Aloof.blks v,w'.heap[g]? = w.heap[g]?):IntO w' base v x:=by
 obtain ⟨b,a,n,c,rfl⟩:=h.r.shape;obtain ⟨s,e',hm⟩:=h;cases e';exact ⟨_,rfl,hm.near fun g hg=>e g (Uy hg)⟩
theorem FracO.near {w w':World}{base:Nat}{v:Value}{q:Rat}(h:FracO w base v q)(e:∀ g∈Aloof.blks v,w'.heap[g]? = w.heap[g]?):FracO w' base v q:=by
 obtain ⟨b1,a1,n1,c1,b2,a2,n2,c2,rfl,h1,h2⟩:=h;rw [Ei] at e;exact ⟨_,_,_,_,_,_,_,_,rfl,h1.near fun g hg=>e g (List.mem_append_left _ hg),h2.near fun g hg=>e g (List.mem_append_right _ hg)⟩
theorem PartK.near {lo:Nat}{w w':World}{v:Value}{d:PD}(h:PartK lo w v d)(e:∀ g∈Aloof.blks v,w'.heap[g]? = w.heap[g]?):PartK lo w' v d:=by
 obtain ⟨b1,a1,n1,c1,b2,a2,n2,c2,b3,a3,n3,c3,b4,a4,n4,c4,rfl,h1,h2,h3⟩:=h;rw [Fj] at e;exact ⟨_,_,_,_,_,_,_,_,_,_,_,_,_,_,_,_,rfl,h1.near fun g hg=>e g (List.mem_append_left _ hg),h2.near fun g hg=>e g (List.mem_append_right _ hg),h3⟩
def okPD (d:PD):Prop:=nf d.p≤2048∧nf d.q≤2048∧Co d.nm.data.toList=true∧mayP d.kd d.co (some d.p) (some d.q)=true
structure Cat (w:World) (g M:Nat) (es:List (PD×Value)):Prop where
 str:w.heap[g]? = some (.cells #[.map (some M)] 72 (0,0))
 map:MapP w M es
 part:∀ x∈es,PartR w x.2 x.1
 lie:∀ x∈es,∀ k∈Aloof.blks x.2,k<w.heap.size
 out:∀ x∈es,∀ k∈Aloof.blks x.2,k≠M
 ok:∀ x∈es,okPD x.1
 few:es.length≤64
def catB (g M:Nat)(es:List (PD×Value))(k:Nat):Prop:=k=g∨k=M∨∃ x∈es,k∈Aloof.blks x.2
theorem Cat.near {w w':World}{g M:Nat}{es:List (PD×Value)}(h:Cat w g M es)(hs:w.heap.size≤w'.heap.size)(e:∀ k,catB g M es k→w'.heap[k]? = w.heap[k]?):Cat w' g M es:=
 ⟨(e g (.inl rfl)).trans h.str,h.map.blk (e M (.inr (.inl rfl))),fun x hx=>(h.part x hx).near fun k hk=>e k (.inr (.inr ⟨x,hx,hk⟩)),fun x hx k hk=>Nat.lt_of_lt_of_le (h.lie x hx k hk) hs,h.out,h.ok,h.few⟩
theorem Cat.lt {w:World}{g M:Nat}{es:List (PD×Value)}(h:Cat w g M es):∀ k,catB g M es k→k<w.heap.size:=by
 rintro k (rfl|rfl|⟨x,hx,hk⟩)
 ·exact (Array.getElem?_eq_some_iff.1 h.str).1
 ·exact h.map.lt
 ·exact h.lie x hx k hk
theorem Cat.ext {w w':World}{g M:Nat}{es:List (PD×Value)}(h:Cat w g M es)(e:Ext w w'):Cat w' g M es:=
 h.near e.size fun k hk=>e.block k (h.lt k hk)
theorem Cat.ne {w:World}{g M:Nat}{es:List (PD×Value)}(h:Cat w g M es):g≠M:=by
 intro e;obtain ⟨a,clock,hb,_⟩:=h.map;have:=h.str;rw [e,hb] at this;cases this
theorem mem_insP {x y:PD×Value}:∀ {es:List (PD×Value)},y∈insP x es↔y=x∨y∈es
 | []=>by simp [insP]
 | z::r=>by
  unfold insP
  split
  ·simp
  ·rw [List.mem_cons,mem_insP (es:=r),List.mem_cons]
   constructor
   ·rintro (h|h|h)
    ·exact .inr (.inl h)
    ·exact .inl h
    ·exact .inr (.inr h)
   ·rintro (h|h|h)
    ·exact .inr (.inl h)
    ·exact .inl h
    ·exact .inr (.inr h)
theorem Cat.put {w w':World}{g M:Nat}{es:List (PD×Value)}{d:PD}{v:Value}{lo:Nat}(h:Cat w g M es)(hm:MapP w' M (insP (d,v) es))(ht:w.mapTurned w' M)(hv:PartK lo w v d)(hlo:M<lo)(hd:okPD d)(hl:es.length<64):Cat w' g M (insP (d,v) es):=by
 have hg:=ht.grown;have hb:∀ k,k<w.heap.size→k≠M→w'.heap[k]? = w.heap[k]?:=fun k hk hne=>hg.block k hk (fun e=>hne (Option.some.inj e));have hs:w.heap.size≤w'.heap.size:=hg.size;refine ⟨(hb g (Array.getElem?_eq_some_iff.1 h.str).1 h.ne).trans h.str,hm,fun x hx=>?_,fun x hx k hk=>?_,fun x hx k hk=>?_,fun x hx=>?_,by rw [Ge];omega⟩
 ·rcases mem_insP.1 hx with rfl|hx
  ·exact hv.r.near fun k hk=>hb k (hv.span k hk).2 (by have:=(hv.span k hk).1;omega)
  ·exact (h.part x hx).near fun k hk=>hb k (h.lie x hx k hk) (h.out x hx k hk)
 ·rcases mem_insP.1 hx with rfl|hx
  ·exact Nat.lt_of_lt_of_le (hv.span k hk).2 hs
  ·exact Nat.lt_of_lt_of_le (h.lie x hx k hk) hs
 ·rcases mem_insP.1 hx with rfl|hx
  ·have:=(hv.span k hk).1
   omega
  ·exact h.out x hx k hk
 ·rcases mem_insP.1 hx with rfl|hx
  ·exact hd
  ·exact h.ok x hx
theorem Cat.drop {w w':World}{g M:Nat}{es:List (PD×Value)}(f:PD×Value→Bool)(h:Cat w g M es)(hm:MapP w' M (es.filter f))(ht:w.mapTurned w' M):Cat w' g M (es.filter f):=by
 have hg:=ht.grown;have hb:∀ k,k<w.heap.size→k≠M→w'.heap[k]? = w.heap[k]?:=fun k hk hne=>hg.block k hk (fun e=>hne (Option.some.inj e));have hs:w.heap.size≤w'.heap.size:=hg.size;have sub:∀ x,x∈es.filter f→x∈es:=fun x hx=>(List.mem_filter.1 hx).1;exact ⟨(hb g (Array.getElem?_eq_some_iff.1 h.str).1 h.ne).trans h.str,hm,fun x hx=>(h.part x (sub x hx)).near fun k hk=>hb k (h.lie x (sub x hx) k hk) (h.out x (sub x hx) k hk),fun x hx k hk=>Nat.lt_of_lt_of_le (h.lie x (sub x hx) k hk) hs,fun x hx=>h.out x (sub x hx),fun x hx=>h.ok x (sub x hx),nT (List.length_filter_le _ _) h.few⟩
theorem Cat.turned {w w':World}{M:Nat}(ht:w.mapTurned w' M):Chg w w' (· = M):=(Chg.grown ht.grown).mono fun k _ h=>by cases h;rfl
structure FV where
 b1:Bool
 a1:Option Addr
 n1:Nat
 c1:Nat
 b2:Bool
 a2:Option Addr
 n2:Nat
 c2:Nat
theorem FracR.fv {w:World}{v:Value}{x:Rat}(h:FracR w v x):∃ p:FV,v=.agg #[.bool p.b1,.slice p.a1 p.n1 p.c1,.bool p.b2,.slice p.a2 p.n2 p.c2]:=by
 obtain ⟨b1,a1,n1,c1,b2,a2,n2,c2,e⟩:=h.shape;exact ⟨⟨b1,a1,n1,c1,b2,a2,n2,c2⟩,e⟩
theorem PartR.fv {w:World}{v:Value}{d:PD}(h:PartR w v d):∃ p q:FV,v=.agg #[.string d.nm,.int .u8 d.kd,.bool p.b1,.slice p.a1 p.n1 p.c1,.bool p.b2,.slice p.a2 p.n2 p.c2,.bool q.b1,.slice q.a1 q.n1 q.c1,.bool q.b2,.slice q.a2 q.n2 q.c2,.int .i64 d.co]∧FracR w (.agg #[.bool p.b1,.slice p.a1 p.n1 p.c1,.bool p.b2,.slice p.a2 p.n2 p.c2]) d.p∧FracR w (.agg #[.bool q.b1,.slice q.a1 q.n1 q.c1,.bool q.b2,.slice q.a2 q.n2 q.c2]) d.q:=by
 obtain ⟨b1,a1,n1,c1,b2,a2,n2,c2,b3,a3,n3,c3,b4,a4,n4,c4,e,h1,h2⟩:=h;exact ⟨⟨b1,a1,n1,c1,b2,a2,n2,c2⟩,⟨b3,a3,n3,c3,b4,a4,n4,c4⟩,e,h1,h2⟩
theorem PartR.mk {w:World}{d:PD}{p q:FV}(h1:FracR w (.agg #[.bool p.b1,.slice p.a1 p.n1 p.c1,.bool p.b2,.slice p.a2 p.n2 p.c2]) d.p)(h2:FracR w (.agg #[.bool q.b1,.slice q.a1 q.n1 q.c1,.bool q.b2,.slice q.a2 q.n2 q.c2]) d.q):PartR w (.agg #[.string d.nm,.int .u8 d.kd,.bool p.b1,.slice p.a1 p.n1 p.c1,.bool p.b2,.slice p.a2 p.n2 p.c2,.bool q.b1,.slice q.a1 q.n1 q.c1,.bool q.b2,.slice q.a2 q.n2 q.c2,.int .i64 d.co]) d:=
 ⟨_,_,_,_,_,_,_,_,_,_,_,_,_,_,_,_,rfl,h1,h2⟩
theorem Abk (nm:ByteArray)(kd co:Int)(p q:FV)(op oq:Option Rat)(w:World)(h1:AnyF w (.agg #[.bool p.b1,.slice p.a1 p.n1 p.c1,.bool p.b2,.slice p.a2 p.n2 p.c2]) op)(h2:AnyF w (.agg #[.bool q.b1,.slice q.a1 q.n1 q.c1,.bool q.b2,.slice q.a2 q.n2 q.c2]) oq) :
  Calls Tryz.prog 91 #[.agg #[.string nm,.int .u8 kd,.bool p.b1,.slice p.a1 p.n1 p.c1,.bool p.b2,.slice p.a2 p.n2 p.c2,.bool q.b1,.slice q.a1 q.n1 q.c1,.bool q.b2,.slice q.a2 q.n2 q.c2,.int .i64 co]] w fun e w'=>e=.returned (.bool (mayP kd co op oq))∧Ext w w':=
 Ajs nm kd co _ _ _ _ _ _ _ _ _ _ _ _ _ _ _ _ op oq w h1 h2
end Go.Proofs.YteogdoglboddhaaGreatDoor
namespace Go.Proofs.YteogdoglboddhaaGreatDoor.Late
set_option maxRecDepth 100000
open Go Go.RowKit Go.Proofs.YteogdoglboddhaaGreatDoor
def okFree (pre:List Nat)(n size:Nat)(l:List Oper):Bool:=Hj pre n size l&&slots n l
section
variable {P:Program} {Q:Exit→Act→World→Prop}
theorem region_late {id:Nat}{l:List Oper}{a:Act}{w:World}(R:World→World→Prop)(specs:List FSpec)(k:Nat)(ok:Oper)(d:Tmp)(v:Value)(hm:P.follows .mixedOrders=true)(hok:okFree [k] specs.length a.tmps.size l=true)
  (hk:l[k]? = some ok) (hd:ok.dst=some d) (hs:specs[k]? = some (.val v)) (hns:Region.noSelect l.toArray=true)
  (hf:Region.free .any l.toArray (((List.range l.toArray.size).map fun j=>Cf ok j).toArray) k=true) (hQ:∀ c a w,Q (.panic c) (a.put ok.dst v) w→Q (.panic c) a w)
  (hy:∀ (a:Act) (W:World),R w W→(∀ j s oj dj,specs[j]? = some s→l[j]? = some oj→oj.dst=some dj→Cf ok j=true→s.ok W (a.tmps.getD dj undef))→Yields P l.toArray ok v a)
  (hrf:∀ a,R a a) (htr:∀ a b c,R a b→R b c→R a c) (hdr:∀ a,R a a.drew) (hst:∀ s∈specs,∀ W W' v,R W W'→s.ok W v→s.ok W' v)
  (h:freeSteps P l R w Q 0 specs l a []):(Code.region id l.toArray true).wp P Q a w:=by
 rw [okFree,Bool.and_eq_true] at hok;have _:=hrf
 exact La [k] R R (R w) (R w) specs.length specs hm hok.1 (.inr fun _ h=>h) (fun j hj=>by
  obtain rfl:=List.mem_singleton.1 hj;have hlt:=(List.getElem?_eq_some_iff.1 hs).1
  exact ⟨hlt,by omega,ok,d,v,hk,hd,hs,hns,hf,hQ,fun a W hW=>hy a W (hW.elim (fun x=>x) (fun x=>x))⟩) (hdr w) (fun _ _ h k=>htr _ _ _ k h) (fun _ _ h k=>htr _ _ _ k h) hst (He hst) (Ko hok.2) (Cy (by omega) h)
end
end Go.Proofs.YteogdoglboddhaaGreatDoor.Late
namespace Go.Proofs.YteogdoglboddhaaGreatDoor
set_option maxRecDepth 100000
open Go Go.RowKit Go.Proofs
theorem Dx (g M:Nat)(w:World)(h:w.heap[g]? = some (.cells #[.map (some M)] 72 (0,0))) :
  Calls Tryz.prog 30 #[.pointer (some ⟨g,0,none⟩)] w fun e w'=>e=.returned (.bool false)∧w=w':=by
 have k0:=cell0 h;clear h;have hm:∀ W,Sem.run Tryz.prog (binOp BinOp.eql 70 (Value.map (some M)) (Value.map none)) W=Result.ok (.bool false) W:=fun W=>by kernel_rfl
 go_enter Tryz.func30,Tryz.ntmps30;go_wp2_with fail;go_ret;exact ⟨rfl,rfl⟩
theorem Ajq (w:World):Calls Tryz.prog 5 #[] w fun e w'=>∃ g M,e=.returned (.pointer (some ⟨g,0,none⟩))∧Cat w' g M []∧Ext w w'∧w.heap.size≤g∧w.heap.size≤M:=by
 have hmm:=@run_makeMap Tryz.prog;go_enter Tryz.func5,Tryz.ntmps5;go_wp2_with fail;go_ret;refine ⟨_,_,rfl,⟨Br _ _ _ (by simp),(Ac4 w).blk (heap_alloc_old _ _ (by simp)),by simp,by simp,by simp,by simp,by simp⟩,((xR w).al _).al _,by omega,nR _⟩
theorem Qk:(Tryz.prog.info? 58).map (fun i=>(i.zero,i.size,i.bytes))=some (some zeroPart,11,160):=by kernel_rfl
def Af (os:List (PD×Value)):List Value:=os.flatMap fun x=>x.2.cells.toList
def Eu (os:List (PD×Value)):List Nat:=os.flatMap fun x=>Aloof.blks x.2
structure OutP (lo:Nat) (w:World) (s:Value) (os:List (PD×Value)):Prop where
 row:w.ownsRow lo 58 11 s os.length (Af os)
 part:∀ x∈os,PartK lo w x.2 x.1
 nod:(Eu os).Nodup
 own:∀ g,s.ownBlock=some g→g∉Eu os
theorem Ae7 (lo:Nat)(w:World):OutP lo w (.slice none 0 0) []:=
 ⟨World.ownsRow_nil _ _ _ _,by simp,List.nodup_nil,by intro g h;cases h⟩
theorem OutP.ext {lo:Nat}{w w':World}{s:Value}{os:List (PD×Value)}(h:OutP lo w s os)(e:Ext w w'):OutP lo w' s os:=
 ⟨Aw h.row e,fun x hx=>(h.part x hx).ext e,h.nod,h.own⟩
theorem OutP.mono {lo lo':Nat}{w:World}{s:Value}{os:List (PD×Value)}(h:OutP lo w s os)(e:lo'≤lo):OutP lo' w s os:=
 ⟨Db h.row e,fun x hx=>(h.part x hx).mono e,h.nod,h.own⟩
theorem OutP.span {lo:Nat}{w:World}{s:Value}{os:List (PD×Value)}(h:OutP lo w s os):∀ g∈Eu os,lo≤g∧g<w.heap.size:=by
 intro g hg;obtain ⟨x,hx,hk⟩:=List.mem_flatMap.1 hg;exact (h.part x hx).span g hk
theorem OutP.ownLt {lo:Nat}{w:World}{s:Value}{os:List (PD×Value)}(h:OutP lo w s os):∀ g,s.ownBlock=some g→lo≤g∧g<w.heap.size:=by
 intro g hg;rcases h.row.2 with ⟨e,_⟩|⟨k,cap,cur,e,h1,h2,_⟩
 ·rw [e] at hg
  cases hg
 ·rw [e] at hg
  cases hg;exact ⟨h1,(Array.getElem?_eq_some_iff.1 h2).1⟩
theorem OutP.snoc {lo:Nat}{w w1 w2:World}{s s':Value}{os:List (PD×Value)}{d:PD}{v:Value}(h:OutP lo w s os)(hlo:lo≤w.heap.size)(hx:Ext w w1)(hv:PartK w.heap.size w1 v d)
  (hr:w2.ownsRow lo 58 11 s' (os.length+1) (Af os++v.cells.toList)) (hg:w1.grownBy w2 s.ownBlock) (ha:s'.ownBlock=s.ownBlock∨s'.ownBlock=some w1.heap.size):OutP lo w2 s' (os++[(d,v)]):=by
 have hb:∀ k,k<w1.heap.size→s.ownBlock≠some k→w2.heap[k]? = w1.heap[k]?:=fun k hk hne=>hg.block k hk (fun e=>hne e.symm);have hsp:=(h.ext hx).span;have hol:=h.ownLt;refine ⟨by simpa [Af] using hr,fun x hxm=>?_,?_,fun g hgo hm=>?_⟩
 ·rcases List.mem_append.1 hxm with hm|hm
  ·refine ((h.part x hm).ext hx).near fun k hk=>hb k (hsp k (List.mem_flatMap.2 ⟨x,hm,hk⟩)).2 fun e=>h.own k e (List.mem_flatMap.2 ⟨x,hm,hk⟩)
  ·rw [List.mem_singleton] at hm
   subst hm;refine (hv.mono hlo).near fun k hk=>hb k (hv.span k hk).2 fun e=>?_;have:=(hol k e).2;have:=(hv.span k hk).1;omega
 ·rw [show Eu (os++[(d,v)])=Eu os++Aloof.blks v by simp [Eu]]
  refine List.nodup_append.2 ⟨h.nod,?_,fun a ha' b hb' e=>?_⟩
  ·obtain ⟨b1,a1,n1,c1,b2,a2,n2,c2,b3,a3,n3,c3,b4,a4,n4,c4,e,h1,h2,h3⟩:=hv
   exact h3
  ·have:=(h.span a ha').2
   have:=(hv.span b hb').1;omega
 ·rw [show Eu (os++[(d,v)])=Eu os++Aloof.blks v by simp [Eu]] at hm
  rcases ha with ha|ha
  ·rw [ha] at hgo
   rcases List.mem_append.1 hm with hm|hm
   ·exact h.own g hgo hm
   ·have:=(hol g hgo).2
    have:=(hv.span g hm).1;omega
  ·rw [ha] at hgo
   cases hgo;rcases List.mem_append.1 hm with hm|hm
   ·have:=(hsp _ hm).2
    omega
   ·have:=(hv.span _ hm).2
    omega
theorem Ej:∀ (a b:List UInt8),bytesBefore a b=true→a<b
 | [],[],h=>by simp [bytesBefore] at h
 | [],_::_,_=>List.nil_lt_cons ..
 | _::_,[],h=>by simp [bytesBefore] at h
 | a::r,b::s,h=>by
  simp only [bytesBefore,Bool.or_eq_true,decide_eq_true_eq,Bool.and_eq_true,beq_iff_eq] at h
  rw [List.cons_lt_cons_iff]
  rcases h with h|⟨rfl,h⟩
  ·exact .inl h
  ·exact .inr ⟨rfl,Ej r s h⟩
theorem Uk {es:List (PD×Value)}(hr:Rising es){ss:List (List UInt8)}(hp:ss.Perm (strKeys (.map (es.map entM)))):ss.mergeSort (fun x y=>decide (x≤y))=es.map fun x=>x.1.nm.data.toList:=by
 have e:strKeys (.map (es.map entM))=es.map fun x=>x.1.nm.data.toList:=by
  show (es.map entM).map (fun p=>strOf p.1)=_
  rw [List.map_map];rfl
 rw [e] at hp;have h1:=mergeSort_of_perm hp;show ss.mergeSort leB=_
 rw [h1];refine List.mergeSort_of_pairwise ?_;rw [List.pairwise_map]
 exact hr.imp fun {a b} hab=>by
  simp only [decide_eq_true_eq];exact List.le_of_lt (Ej _ _ hab)
theorem Ta {es:List (PD×Value)}(hr:Rising es):∀ {x},x∈es→Ay x.1.nm es=some x:=by
 induction es with
 | nil=>intro x hx;cases hx
 | cons y r ih=>
  intro x hx;obtain ⟨h1,h2⟩:=List.pairwise_cons.1 hr;unfold Ay;rw [List.find?_cons];by_cases hn:Bb x.1.nm y=true
  ·rw [hn]
   rcases List.mem_cons.1 hx with rfl|hx
   ·rfl
   ·have:=h1 x hx
    unfold Bb at hn;rw [beq_iff_eq] at hn;rw [hn,WideAt.bytes_irrefl] at this;cases this
  ·rw [Bool.not_eq_true] at hn
   rw [hn];rcases List.mem_cons.1 hx with rfl|hx
   ·unfold Bb at hn
    simp at hn
   ·exact ih h2 hx
theorem Jq (w:World)(cs:List Value)(T:TypeId):∀ j u,cs[j]? = some u→(w.alloc (.cells cs.toArray T)).cell? (Addr.add ⟨w.heap.size,0,none⟩ j)=some u:=by
 intro j u hj;have h:(w.alloc (.cells cs.toArray T)).heap[w.heap.size]? = some (.cells cs.toArray T (0,0)):=heap_alloc_new _ _
 have e:(Addr.add ⟨w.heap.size,0,none⟩ j)=⟨w.heap.size,j,none⟩:=by
  unfold Addr.add;by_cases h0:j=0
  ·subst h0;rfl
  ·simp [h0]
 rw [e];have:=Aa h j;rw [this];simpa using hj
theorem Hv (d:PD)(p q:FV):∀ u∈([.string d.nm,.int .u8 d.kd,.bool p.b1,.slice p.a1 p.n1 p.c1,.bool p.b2,.slice p.a2 p.n2 p.c2,.bool q.b1,.slice q.a1 q.n1 q.c1,.bool q.b2,.slice q.a2 q.n2 q.c2,.int .i64 d.co]:List Value),u.oneCell'=true:=by
 intro u hu;simp only [List.mem_cons,List.not_mem_nil,or_false] at hu;rcases hu with rfl|rfl|rfl|rfl|rfl|rfl|rfl|rfl|rfl|rfl|rfl<;>rfl
end Go.Proofs.YteogdoglboddhaaGreatDoor
