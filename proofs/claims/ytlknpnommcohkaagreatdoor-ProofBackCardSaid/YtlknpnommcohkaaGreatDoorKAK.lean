/-
  orbit: short, form. orbit: stays, Stays, told. orbit: Bound. What comes in: a list of parts as data. Loads out of the middle of a row whose cells are known one by one: no program. law01: ElementCost, PartsCost; law25: fits. law01: what lists of elements, of fractions, of parts cost. law01: what a task, what a proof costs. A proof that came in and costs little: data that check or not. SamePart of two parts that are the same.
-/
import Derived.Test.YtlknpnommcohkaaGreatDoorKAJ
import Derived.Test.YtlknpnommcohkaaGreatDoorKAE
import Derived.Test.YtlknpnommcohkaaGreatDoorKAF
import Derived.Test.YtlknpnommcohkaaGreatDoorKAC
import Derived.Test.YtlknpnommcohkaaGreatDoorKAA
import Derived.LoopN
import Derived.Deep.MidRow
import Derived.Test.YtlknpnommcohkaaGreatDoorKAI
set_option maxHeartbeats 6400000
namespace Go.Proofs.YtlknpnommcohkaaGreatDoor
set_option maxRecDepth 100000
open Go Go.RowKit Go.Proofs
def s4 (m:Mat4):Prop:=nf m.1≤16777216∧nf m.2.1≤16777216∧nf m.2.2.1≤16777216∧nf m.2.2.2≤16777216
theorem s4.n {m:Mat4}(h:s4 m):n4 m:=⟨by have:=h.1;omega,by have:=h.2.1;omega,by have:=h.2.2.1;omega,by have:=h.2.2.2;omega⟩
theorem k4.s {m:Mat4}(h:k4 m):s4 m:=⟨by have:=h.1;omega,by have:=h.2.1;omega,by have:=h.2.2.1;omega,by have:=h.2.2.2;omega⟩
def Ck (m:Mat4):Rat:=4-(m.1+m.2.2.2)*(m.1+m.2.2.2)
def En (m:Mat4)(y t:Rat):Rat:=y*(m.2.2.1*y+m.2.2.2*t)-t*(m.1*y+m.2.1*t)
theorem Ik:nf (4:Rat)≤2048:=Fg 4 (by decide) (by decide)
theorem Rn (v:Value)(m:Mat4)(w:World)(hk:s4 m)(h:M4R w v m) :
  Calls Tryz.prog 152 #[v] w fun e w'=>∃ v,e=.returned v∧Ext w w'∧FracO w' w.heap.size v (Ck m):=by
 obtain ⟨a,b,c,d⟩:=m;obtain ⟨m1,m2,m3,m4,rfl,h1,h2,h3,h4⟩:=h;obtain ⟨w2,hw2⟩:=nmE ((w.alloc (.cells #[.bool m1.b1,.slice m1.a1 m1.n1 m1.c1,.bool m1.b2,.slice m1.a2 m1.n2 m1.c2,.bool m2.b1,.slice m2.a1 m2.n1 m2.c1,.bool m2.b2,.slice m2.a2 m2.n2 m2.c2,.bool m3.b1,.slice m3.a1 m3.n1 m3.c1,.bool m3.b2,.slice m3.a2 m3.n2 m3.c2,.bool m4.b1,.slice m4.a1 m4.n1 m4.c1,.bool m4.b2,.slice m4.a2 m4.n2 m4.c2] 140)).alloc (.cells #[.bool false,.slice none 0 0,.bool false,.slice none 0 0] 28));have hE2:=aLe2 hw2;have z1:=aL21 hw2;have hs:=aLs2 hw2;have n1:=hk.1;have n2:=hk.2.2.2;have n3:=Ef a d;have n4:=Bj (a+d) (a+d);have n5:=Ik;simp only at n1 n2;have KP:=mK (Aa2 (.agg #[.bool m1.b1,.slice m1.a1 m1.n1 m1.c1,.bool m1.b2,.slice m1.a2 m1.n2 m1.c2]) (.agg #[.bool m4.b1,.slice m4.a1 m4.n1 m4.c1,.bool m4.b2,.slice m4.a2 m4.n2 m4.c2]) a d w2 (by omega) (by omega) (h1.ext hE2) (h4.ext hE2));have KT:=mK (fun v v' W h h'=>Es v v' (a+d) (a+d) W (by omega) (by omega) h h');have KM:=mK (fun v v' W h h'=>Lc v v' 4 ((a+d)*(a+d)) W (by omega) (by omega) h h');have KS:=Op 4 1;rw [show Rat.divInt 4 1=(4:Rat) by rfl] at KS;replace KS:=mK (fun W=>KS W (by omega) (by omega) (by omega) (by omega) (by omega));have Z1:=mK (fun W (e:Ext w2 W)=>e.blk z1);replace hw2:=mK hw2;replace hE2:=mK hE2;replace hs:=mK hs;clear z1 h1 h2 h3 h4 hk n1 n2 n3 n4 n5;rw [show Ck (a,b,c,d)=4-(a+d)*(a+d) from rfl];go_enter Tryz.func152,Tryz.ntmps152;have tok:Tok 0:=.mk _
 go_wp2_with (first
  | (replace tok:Tok 1:=nxT 0 tok;go_at_call 218;rw [←hw2.out];refine KP.out.mono ?_;rintro e w3 ⟨vt,rfl,hx3,ht⟩;(obtain ⟨t,rfl⟩:=Bh ht);(obtain ⟨w4,hw4⟩:=nmE (w3.alloc (.cells #[.bool t.b1,.slice t.a1 t.n1 t.c1,.bool t.b2,.slice t.a2 t.n2 t.c2] 28)));(have hx4:Ext w2 w4:=by rw [hw4];exact hx3.al _);(have z4:w4.heap[w3.heap.size]? = some (.cells #[.bool t.b1,.slice t.a1 t.n1 t.c1,.bool t.b2,.slice t.a2 t.n2 t.c2] 28 (0,0)):=by rw [hw4];exact heap_alloc_new _ _);(have ht4:FracR w4 (.agg #[.bool t.b1,.slice t.a1 t.n1 t.c1,.bool t.b2,.slice t.a2 t.n2 t.c2]) (a+d):=by rw [hw4];exact ht.r.ext ((xR w3).al _));(replace hw4:=mK hw4);(replace hx4:=mK hx4);clear hx3 ht))
 rw [←hw4.out];have hs4:w.heap.size+2≤w4.heap.size:=by have:=hs.out;have:=hx4.out.size;omega
 have ZT:=mK (fun W (e:Ext w4 W)=>e.blk z4);have Z2:=mK (fun W (e:Ext w4 W)=>Z1.out W (hx4.out.trans e));have hE:=mK (hE2.out.trans hx4.out);have KT2:=mK (fun W (e:Ext w4 W)=>KT.out _ _ W (ht4.ext e) (ht4.ext e));have KS2:=mK (fun W (_:Ext w4 W)=>KS.out W);have KM2:=mK (fun v v' W (_:Ext w4 W) h h'=>KM.out v v' W h h');clear tok ht4 z4;apply Ak [.pred (fun W v=>FracO W (w.heap.size+2) v 4),.val (.agg #[.bool t.b1,.slice t.a1 t.n1 t.c1,.bool t.b2,.slice t.a2 t.n2 t.c2]),.val (.agg #[.bool t.b1,.slice t.a1 t.n1 t.c1,.bool t.b2,.slice t.a2 t.n2 t.c2]),.pred (fun W v=>FracO W (w.heap.size+2) v ((a+d)*(a+d))),.pred (fun W v=>FracO W (w.heap.size+2) v (4-(a+d)*(a+d)))] (by kernel_rfl) (At _ _ (stable_vals _ (stable_vals _ (At _ _ (At (ss:=[]) _ _ trivial)))));refine ⟨fun W hW hF=>?g0,fun v100=>?_⟩
 case g0=>
  clear hF;go_simp;refine (KS2.out W hW).mono ?_;rintro e w' ⟨v,rfl,h1,h2⟩;exact ⟨v,rfl,h1,h2.mono (nT hs4 hW.size)⟩
 refine ⟨?l1,?_⟩
 case l1=>
  intro W hW hF;have hr:=ZT.out W hW;clear hF;with_reducible refine Ah ?zhw 28 (.tmp 3) ?zho (w3.heap.size) 0 ?zhx 28 _ #[.bool t.b1,.slice t.a1 t.n1 t.c1,.bool t.b2,.slice t.a2 t.n2 t.c2] (0,0) _ hr ?zhs Tryz.underlying28 ?zhd ?zhi ?zh
  case zhw=>kernel_rfl
  case zho=>rfl
  case zhx=>kernel_rfl
  case zhs=>rfl
  case zhd=>rfl
  case zhi=>kernel_rfl
  case zh=>exact ⟨xR _,rfl⟩
 refine ⟨?l2,?_⟩
 case l2=>
  intro W hW hF;have hr:=ZT.out W hW;clear hF;with_reducible refine Ah ?zhw 28 (.tmp 3) ?zho (w3.heap.size) 0 ?zhx 28 _ #[.bool t.b1,.slice t.a1 t.n1 t.c1,.bool t.b2,.slice t.a2 t.n2 t.c2] (0,0) _ hr ?zhs Tryz.underlying28 ?zhd ?zhi ?zh
  case zhw=>kernel_rfl
  case zho=>rfl
  case zhx=>kernel_rfl
  case zhs=>rfl
  case zhd=>rfl
  case zhi=>kernel_rfl
  case zh=>exact ⟨xR _,rfl⟩
 refine ⟨fun W hW hF=>?g3,fun v103=>?_⟩
 case g3=>
  clear hF;go_simp;refine (KT2.out W hW).mono ?_;rintro e w' ⟨v,rfl,h1,h2⟩;exact ⟨v,rfl,h1,h2.mono (nT hs4 hW.size)⟩
 refine ⟨fun W hW hF=>?g4,fun v104=>fun W hW hF=>?fin⟩
 case g4=>
  have d0:Hid (FracO W (w.heap.size+2) v100 4):=hF.2.1 (by kernel_rfl);have d3:Hid (FracO W (w.heap.size+2) v103 ((a+d)*(a+d))):=hF.1 (by kernel_rfl);clear hF;go_simp;refine (KM2.out v100 v103 W hW (d0.out.r) (d3.out.r)).mono ?_;rintro e w' ⟨v,rfl,h1,h2⟩;exact ⟨v,rfl,h1,h2.mono (nT hs4 hW.size)⟩
 case fin=>
  have dz:FracO W (w.heap.size+2) v104 (4-(a+d)*(a+d)):=hF.1 rfl;obtain ⟨g,rfl⟩:=Bh dz;have hBW:=Z2.out W hW;have FR:=(dz.row (g:=w.heap.size+1) (by omega) #[.bool g.b1,.slice g.a1 g.n1 g.c1,.bool g.b2,.slice g.a2 g.n2 g.c2]).mono (show w.heap.size≤(w.heap.size+2) by omega);have FE:=mK ((hE.out.trans hW).row (show w.heap.size≤w.heap.size+1 by omega) #[.bool g.b1,.slice g.a1 g.n1 g.c1,.bool g.b2,.slice g.a2 g.n2 g.c2]);replace FR:=mK FR;clear hF dz hW;go_simp;go_wp2_with (refine wpList_store_row rfl 28 (.tmp 2) (.tmp 13) rfl (w.heap.size+1) #[.bool g.b1,.slice g.a1 g.n1 g.c1,.bool g.b2,.slice g.a2 g.n2 g.c2] rfl rfl 28 _ hBW (by kernel_rfl) rfl (by kernel_rfl) ?_);exact bodyPost_ret (results_cell_row rfl _ _ (w.heap.size+1) 28 #[.bool g.b1,.slice g.a1 g.n1 g.c1,.bool g.b2,.slice g.a2 g.n2 g.c2] (0,0) _ rfl (setRow_heap _ _ _ _ _ _ hBW) Tryz.underlying28 rfl (by kernel_rfl)) rfl ⟨_,rfl,FE.out,FR.out⟩
theorem Adk (v r:Value)(m:Mat4)(y t:Rat)(w:World)(hkk:s4 m)(hy:nf y≤16777216∧nf t≤16777216)(h:M4R w v m)(hr:RyR w r y t) :
  Calls Tryz.prog 157 #[v,r] w fun e w'=>∃ v,e=.returned v∧Ext w w'∧FracO w' w.heap.size v (En m y t):=by
 obtain ⟨a,b,c,d⟩:=m;obtain ⟨m1,m2,m3,m4,rfl,-⟩:=id h;obtain ⟨g1,g2,rfl,r1,r2⟩:=id hr;obtain ⟨w2,hw2⟩:=nmE (((w.alloc (.cells #[.bool m1.b1,.slice m1.a1 m1.n1 m1.c1,.bool m1.b2,.slice m1.a2 m1.n2 m1.c2,.bool m2.b1,.slice m2.a1 m2.n1 m2.c1,.bool m2.b2,.slice m2.a2 m2.n2 m2.c2,.bool m3.b1,.slice m3.a1 m3.n1 m3.c1,.bool m3.b2,.slice m3.a2 m3.n2 m3.c2,.bool m4.b1,.slice m4.a1 m4.n1 m4.c1,.bool m4.b2,.slice m4.a2 m4.n2 m4.c2] 140)).alloc (.cells #[.bool g1.b1,.slice g1.a1 g1.n1 g1.c1,.bool g1.b2,.slice g1.a2 g1.n2 g1.c2,.bool g2.b1,.slice g2.a1 g2.n1 g2.c1,.bool g2.b2,.slice g2.a2 g2.n2 g2.c2] 30)).alloc (.cells #[.bool false,.slice none 0 0,.bool false,.slice none 0 0] 28));have hE2:=aLe3 hw2;have z0:=aL31 hw2;have z1:=aL32 hw2;have hs:=aLs3 hw2;have hk:=hkk.n;obtain ⟨q1,q2,q3,q4⟩:=hkk;obtain ⟨q5,q6⟩:=hy;simp only at q1 q2 q3 q4;have a1:=Bj a y;have a2:=Bj b t;have a3:=Ef (a*y) (b*t);have a4:=Bj c y;have a5:=Bj d t;have a6:=Ef (c*y) (d*t);have a7:=Bj y (c*y+d*t);have a8:=Bj t (a*y+b*t);have KR:=mK (Oz (.agg #[.bool m1.b1,.slice m1.a1 m1.n1 m1.c1,.bool m1.b2,.slice m1.a2 m1.n2 m1.c2,.bool m2.b1,.slice m2.a1 m2.n1 m2.c1,.bool m2.b2,.slice m2.a2 m2.n2 m2.c2,.bool m3.b1,.slice m3.a1 m3.n1 m3.c1,.bool m3.b2,.slice m3.a2 m3.n2 m3.c2,.bool m4.b1,.slice m4.a1 m4.n1 m4.c1,.bool m4.b2,.slice m4.a2 m4.n2 m4.c2]) (.agg #[.bool g1.b1,.slice g1.a1 g1.n1 g1.c1,.bool g1.b2,.slice g1.a2 g1.n2 g1.c2,.bool g2.b1,.slice g2.a1 g2.n1 g2.c1,.bool g2.b2,.slice g2.a2 g2.n2 g2.c2]) a b c d y t w2 hk ⟨by omega,by omega⟩ (MtR.ext h hE2) (hr.ext hE2));have KA:=mK (fun v W h h'=>Es (.agg #[.bool g1.b1,.slice g1.a1 g1.n1 g1.c1,.bool g1.b2,.slice g1.a2 g1.n2 g1.c2]) v y (c*y+d*t) W (by omega) (by omega) h h');have KB:=mK (fun v W h h'=>Es (.agg #[.bool g2.b1,.slice g2.a1 g2.n1 g2.c1,.bool g2.b2,.slice g2.a2 g2.n2 g2.c2]) v t (a*y+b*t) W (by omega) (by omega) h h')
 have KM:=mK (fun v v' W h h'=>Lc v v' (y*(c*y+d*t)) (t*(a*y+b*t)) W (by omega) (by omega) h h');have Z0:=mK (fun W (e:Ext w2 W)=>e.blk z0);have Z1:=mK (fun W (e:Ext w2 W)=>e.blk z1);replace r1:=mK (r1.ext hE2);replace r2:=mK (r2.ext hE2);replace hw2:=mK hw2;replace hE2:=mK hE2;replace hs:=mK hs;clear z0 z1 h hr hk q1 q2 q3 q4 q5 q6 a1 a2 a3 a4 a5 a6 a7 a8;rw [show En (a,b,c,d) y t=y*(c*y+d*t)-t*(a*y+b*t) from rfl];go_enter Tryz.func157,Tryz.ntmps157;have tok:Tok 0:=.mk _
 go_wp2_with (first
  | (replace tok:Tok 1:=nxT 0 tok;go_at_call 215;rw [←hw2.out];refine KR.out.mono ?_;rintro e w3 ⟨vt,rfl,hx3,ht⟩;(obtain ⟨x1,x2,rfl,t1,t2⟩:=ht);(obtain ⟨w4,hw4⟩:=nmE (w3.alloc (.cells #[.bool x1.b1,.slice x1.a1 x1.n1 x1.c1,.bool x1.b2,.slice x1.a2 x1.n2 x1.c2,.bool x2.b1,.slice x2.a1 x2.n1 x2.c1,.bool x2.b2,.slice x2.a2 x2.n2 x2.c2] 30)));(have hx4:Ext w2 w4:=by rw [hw4];exact hx3.al _);(have z4:w4.heap[w3.heap.size]? = some (.cells #[.bool x1.b1,.slice x1.a1 x1.n1 x1.c1,.bool x1.b2,.slice x1.a2 x1.n2 x1.c2,.bool x2.b1,.slice x2.a1 x2.n1 x2.c1,.bool x2.b2,.slice x2.a2 x2.n2 x2.c2] 30 (0,0)):=by rw [hw4];exact heap_alloc_new _ _);(have t14:FracR w4 (.agg #[.bool x1.b1,.slice x1.a1 x1.n1 x1.c1,.bool x1.b2,.slice x1.a2 x1.n2 x1.c2]) (a*y+b*t):=by rw [hw4];exact t1.r.ext ((xR w3).al _));(have t24:FracR w4 (.agg #[.bool x2.b1,.slice x2.a1 x2.n1 x2.c1,.bool x2.b2,.slice x2.a2 x2.n2 x2.c2]) (c*y+d*t):=by rw [hw4];exact t2.r.ext ((xR w3).al _));(replace hw4:=mK hw4);(replace hx4:=mK hx4);clear hx3 t1 t2))
 rw [←hw4.out];have hs4:w.heap.size+3≤w4.heap.size:=by have:=hs.out;have:=hx4.out.size;omega
 have ZX:=mK (fun W (e:Ext w4 W)=>e.blk z4);have ZR:=mK (fun W (e:Ext w4 W)=>Z0.out W (hx4.out.trans e));have Z2:=mK (fun W (e:Ext w4 W)=>Z1.out W (hx4.out.trans e));have hE:=mK (hE2.out.trans hx4.out);have KA2:=mK (fun W (e:Ext w4 W)=>KA.out _ W (r1.out.ext (hx4.out.trans e)) (t24.ext e));have KB2:=mK (fun W (e:Ext w4 W)=>KB.out _ W (r2.out.ext (hx4.out.trans e)) (t14.ext e));have KM2:=mK (fun v v' W (_:Ext w4 W) h h'=>KM.out v v' W h h');clear tok t14 t24 z4;apply Ak [.val (.pointer (some ⟨w.heap.size+1,0,none⟩)),.val (.agg #[.bool g1.b1,.slice g1.a1 g1.n1 g1.c1,.bool g1.b2,.slice g1.a2 g1.n2 g1.c2]),.val (.pointer (some ⟨w3.heap.size,4,none⟩)),.val (.agg #[.bool x2.b1,.slice x2.a1 x2.n1 x2.c1,.bool x2.b2,.slice x2.a2 x2.n2 x2.c2]),.pred (fun W v=>FracO W (w.heap.size+3) v (y*(c*y+d*t))),.val (.pointer (some ⟨w.heap.size+1,4,none⟩)),.val (.agg #[.bool g2.b1,.slice g2.a1 g2.n1 g2.c1,.bool g2.b2,.slice g2.a2 g2.n2 g2.c2]),.val (.pointer (some ⟨w3.heap.size,0,none⟩)),.val (.agg #[.bool x1.b1,.slice x1.a1 x1.n1 x1.c1,.bool x1.b2,.slice x1.a2 x1.n2 x1.c2]),.pred (fun W v=>FracO W (w.heap.size+3) v (t*(a*y+b*t))),.pred (fun W v=>FracO W (w.heap.size+3) v (y*(c*y+d*t)-t*(a*y+b*t)))] (by kernel_rfl) (stable_vals _ (stable_vals _ (stable_vals _ (stable_vals _ (At _ _ (stable_vals _ (stable_vals _ (stable_vals _ (stable_vals _ (At _ _ (At (ss:=[]) _ _ trivial)))))))))));refine ⟨fun W hW _=>by go_simp;first|exact ⟨xR _,rfl⟩|exact xR _,?_⟩;refine ⟨?l1,?_⟩
 case l1=>
  intro W hW hF;have hr:=ZR.out W hW;clear hF;with_reducible refine Ah ?zhw 28 (.tmp 9) ?zho (w.heap.size+1) 0 ?zhx 30 _ #[.bool g1.b1,.slice g1.a1 g1.n1 g1.c1,.bool g1.b2,.slice g1.a2 g1.n2 g1.c2] (0,0) _ hr ?zhs Tryz.underlying28 ?zhd ?zhi ?zh
  case zhw=>kernel_rfl
  case zho=>rfl
  case zhx=>kernel_rfl
  case zhs=>rfl
  case zhd=>rfl
  case zhi=>kernel_rfl
  case zh=>exact ⟨xR _,rfl⟩
 refine ⟨fun W hW _=>by go_simp;first|exact ⟨xR _,rfl⟩|exact xR _,?_⟩;refine ⟨?l3,?_⟩
 case l3=>
  intro W hW hF;have hr:=ZX.out W hW;clear hF;with_reducible refine Ah ?zhw 28 (.tmp 11) ?zho (w3.heap.size) 4 ?zhx 30 _ #[.bool x2.b1,.slice x2.a1 x2.n1 x2.c1,.bool x2.b2,.slice x2.a2 x2.n2 x2.c2] (0,0) _ hr ?zhs Tryz.underlying28 ?zhd ?zhi ?zh
  case zhw=>kernel_rfl
  case zho=>rfl
  case zhx=>kernel_rfl
  case zhs=>rfl
  case zhd=>rfl
  case zhi=>kernel_rfl
  case zh=>exact ⟨xR _,rfl⟩
 refine ⟨fun W hW hF=>?g4,fun v104=>?_⟩
 case g4=>
  clear hF;go_simp;refine (KA2.out W hW).mono ?_;rintro e w' ⟨v,rfl,h1,h2⟩;exact ⟨v,rfl,h1,h2.mono (nT hs4 hW.size)⟩
 refine ⟨fun W hW _=>by go_simp;first|exact ⟨xR _,rfl⟩|exact xR _,?_⟩;refine ⟨?l6,?_⟩
 case l6=>
  intro W hW hF;have hr:=ZR.out W hW;clear hF;with_reducible refine Ah ?zhw 28 (.tmp 14) ?zho (w.heap.size+1) 4 ?zhx 30 _ #[.bool g2.b1,.slice g2.a1 g2.n1 g2.c1,.bool g2.b2,.slice g2.a2 g2.n2 g2.c2] (0,0) _ hr ?zhs Tryz.underlying28 ?zhd ?zhi ?zh
  case zhw=>kernel_rfl
  case zho=>rfl
  case zhx=>kernel_rfl
  case zhs=>rfl
  case zhd=>rfl
  case zhi=>kernel_rfl
  case zh=>exact ⟨xR _,rfl⟩
 refine ⟨fun W hW _=>by go_simp;first|exact ⟨xR _,rfl⟩|exact xR _,?_⟩;refine ⟨?l8,?_⟩
 case l8=>
  intro W hW hF;have hr:=ZX.out W hW;clear hF;with_reducible refine Ah ?zhw 28 (.tmp 16) ?zho (w3.heap.size) 0 ?zhx 30 _ #[.bool x1.b1,.slice x1.a1 x1.n1 x1.c1,.bool x1.b2,.slice x1.a2 x1.n2 x1.c2] (0,0) _ hr ?zhs Tryz.underlying28 ?zhd ?zhi ?zh
  case zhw=>kernel_rfl
  case zho=>rfl
  case zhx=>kernel_rfl
  case zhs=>rfl
  case zhd=>rfl
  case zhi=>kernel_rfl
  case zh=>exact ⟨xR _,rfl⟩
 refine ⟨fun W hW hF=>?g9,fun v109=>?_⟩
 case g9=>
  clear hF;go_simp;refine (KB2.out W hW).mono ?_;rintro e w' ⟨v,rfl,h1,h2⟩;exact ⟨v,rfl,h1,h2.mono (nT hs4 hW.size)⟩
 refine ⟨fun W hW hF=>?g10,fun v110=>fun W hW hF=>?fin⟩
 case g10=>
  have d4:Hid (FracO W (w.heap.size+3) v104 (y*(c*y+d*t))):=hF.2.1 (by kernel_rfl);have d9:Hid (FracO W (w.heap.size+3) v109 (t*(a*y+b*t))):=hF.1 (by kernel_rfl);clear hF;go_simp;refine (KM2.out v104 v109 W hW (d4.out.r) (d9.out.r)).mono ?_;rintro e w' ⟨v,rfl,h1,h2⟩;exact ⟨v,rfl,h1,h2.mono (nT hs4 hW.size)⟩
 case fin=>
  have dz:FracO W (w.heap.size+3) v110 (y*(c*y+d*t)-t*(a*y+b*t)):=hF.1 rfl;obtain ⟨g,rfl⟩:=Bh dz;have hBW:=Z2.out W hW;have FR:=(dz.row (g:=w.heap.size+2) (by omega) #[.bool g.b1,.slice g.a1 g.n1 g.c1,.bool g.b2,.slice g.a2 g.n2 g.c2]).mono (show w.heap.size≤(w.heap.size+3) by omega);have FE:=mK ((hE.out.trans hW).row (show w.heap.size≤w.heap.size+2 by omega) #[.bool g.b1,.slice g.a1 g.n1 g.c1,.bool g.b2,.slice g.a2 g.n2 g.c2]);replace FR:=mK FR;clear hF dz hW;go_simp;go_wp2_with (refine wpList_store_row rfl 28 (.tmp 4) (.tmp 19) rfl (w.heap.size+2) #[.bool g.b1,.slice g.a1 g.n1 g.c1,.bool g.b2,.slice g.a2 g.n2 g.c2] rfl rfl 28 _ hBW (by kernel_rfl) rfl (by kernel_rfl) ?_);exact bodyPost_ret (results_cell_row rfl _ _ (w.heap.size+2) 28 #[.bool g.b1,.slice g.a1 g.n1 g.c1,.bool g.b2,.slice g.a2 g.n2 g.c2] (0,0) _ rfl (setRow_heap _ _ _ _ _ _ hBW) Tryz.underlying28 rfl (by kernel_rfl)) rfl ⟨_,rfl,FE.out,FR.out⟩
theorem Rm (v r:Value)(m:Mat4)(y t:Rat)(w:World)(hk:s4 m)(h:M4R w v m)(hr:RyR w r y t)(hS:(Ck m).num.sign=1) :
  Calls Tryz.prog 151 #[v,r] w fun e w'=>e=.returned (.bool true)∧Ext w w':=by
 obtain ⟨m1,m2,m3,m4,rfl,-⟩:=id h;obtain ⟨g1,g2,rfl,-⟩:=hr;obtain ⟨w2,hw2⟩:=nmE ((w.alloc (.cells #[.bool m1.b1,.slice m1.a1 m1.n1 m1.c1,.bool m1.b2,.slice m1.a2 m1.n2 m1.c2,.bool m2.b1,.slice m2.a1 m2.n1 m2.c1,.bool m2.b2,.slice m2.a2 m2.n2 m2.c2,.bool m3.b1,.slice m3.a1 m3.n1 m3.c1,.bool m3.b2,.slice m3.a2 m3.n2 m3.c2,.bool m4.b1,.slice m4.a1 m4.n1 m4.c1,.bool m4.b2,.slice m4.a2 m4.n2 m4.c2] 140)).alloc (.cells #[.bool g1.b1,.slice g1.a1 g1.n1 g1.c1,.bool g1.b2,.slice g1.a2 g1.n2 g1.c2,.bool g2.b1,.slice g2.a1 g2.n1 g2.c1,.bool g2.b2,.slice g2.a2 g2.n2 g2.c2] 30));have hE2:=aLe2 hw2
 have nS:nf (Ck m)≤268435456:=by
  have a1:=Ef m.1 m.2.2.2;have a2:=Bj (m.1+m.2.2.2) (m.1+m.2.2.2);have a3:=Kb 4 ((m.1+m.2.2.2)*(m.1+m.2.2.2));have a4:=Ik;have:=hk.1;have:=hk.2.2.2;unfold Ck;omega
 have KS:=mK (Rn (.agg #[.bool m1.b1,.slice m1.a1 m1.n1 m1.c1,.bool m1.b2,.slice m1.a2 m1.n2 m1.c2,.bool m2.b1,.slice m2.a1 m2.n1 m2.c1,.bool m2.b2,.slice m2.a2 m2.n2 m2.c2,.bool m3.b1,.slice m3.a1 m3.n1 m3.c1,.bool m3.b2,.slice m3.a2 m3.n2 m3.c2,.bool m4.b1,.slice m4.a1 m4.n1 m4.c1,.bool m4.b2,.slice m4.a2 m4.n2 m4.c2]) m w2 hk (MtR.ext h hE2));have KG:=fun v W (h:FracR W v (Ck m))=>Jt v (Ck m) W nS h;rw [hS] at KG;replace KG:=mK KG;replace hw2:=mK hw2;replace hE2:=mK hE2;clear h hk nS hS;go_enter Tryz.func151,Tryz.ntmps151;have tok:Tok 0:=.mk _
 go_wp2_with (first
  | (replace tok:Tok 1:=nxT 0 tok;go_at_call 152;rw [←hw2.out];refine KS.out.mono ?_;rintro e w3 ⟨vs,rfl,hx3,hs⟩;(replace hs:=mK hs.r);(replace hx3:=mK hx3))
  | (replace tok:Tok 2:=nxT 1 tok;go_at_call 116;refine (KG.out _ _ hs.out).mono ?_;rintro e w4 ⟨rfl,hx4⟩;(replace hx4:=mK (hx3.out.trans hx4))))
 go_ret;exact ⟨rfl,hE2.out.trans hx4.out⟩
theorem Abc (v r:Value)(m:Mat4)(y t:Rat)(w:World)(hk:k4 m)(h:M4R w v m)(hr:RyR w r y t)(hy:nf y≤2048)(ht:nf t≤2048)(hd:m.1*m.2.2.2-m.2.1*m.2.2.1=1)(hS:(Ck m).num.sign=1) :
  Calls Tryz.prog 106 #[v,r] w fun e w'=>e=.returned (.tuple #[.bool true,.int .i64 0])∧Ext w w':=by
 obtain ⟨m1,m2,m3,m4,rfl,-⟩:=id h;obtain ⟨g1,g2,rfl,-⟩:=id hr;obtain ⟨w2,hw2⟩:=nmE ((w.alloc (.cells #[.bool m1.b1,.slice m1.a1 m1.n1 m1.c1,.bool m1.b2,.slice m1.a2 m1.n2 m1.c2,.bool m2.b1,.slice m2.a1 m2.n1 m2.c1,.bool m2.b2,.slice m2.a2 m2.n2 m2.c2,.bool m3.b1,.slice m3.a1 m3.n1 m3.c1,.bool m3.b2,.slice m3.a2 m3.n2 m3.c2,.bool m4.b1,.slice m4.a1 m4.n1 m4.c1,.bool m4.b2,.slice m4.a2 m4.n2 m4.c2] 140)).alloc (.cells #[.bool g1.b1,.slice g1.a1 g1.n1 g1.c1,.bool g1.b2,.slice g1.a2 g1.n2 g1.c2,.bool g2.b1,.slice g2.a1 g2.n1 g2.c1,.bool g2.b2,.slice g2.a2 g2.n2 g2.c2] 30));have hE2:=aLe2 hw2;have z0:=aL20 hw2;have z1:=aL21 hw2;have KF:=mK (Wa _ _ m y t w2 (MtR.ext h hE2) hk hd (hr.ext hE2) hy ht);have KS:=mK (fun W (e:Ext w2 W)=>Rm _ _ m y t W hk.s (MtR.ext h (hE2.trans e)) (hr.ext (hE2.trans e)) hS);have Z0:=mK (fun W (e:Ext w2 W)=>e.blk z0);have Z1:=mK (fun W (e:Ext w2 W)=>e.blk z1);replace hw2:=mK hw2;replace hE2:=mK hE2;clear h hk hS hr hy ht hd z0 z1;go_enter Tryz.func106,Tryz.ntmps106;have tok:Tok 0:=.mk _
 go_wp2_with (first
  | (replace tok:Tok 1:=nxT 0 tok;go_at_call 150;rw [←hw2.out];refine KF.out.mono ?_;rintro e w3 ⟨rfl,hx3⟩;(replace hx3:=mK hx3))
  | (replace tok:Tok 2:=nxT 1 tok;refine wpList_load_row (by rfl) 140 (.tmp 2) rfl w.heap.size rfl 140 #[.bool m1.b1,.slice m1.a1 m1.n1 m1.c1,.bool m1.b2,.slice m1.a2 m1.n2 m1.c2,.bool m2.b1,.slice m2.a1 m2.n1 m2.c1,.bool m2.b2,.slice m2.a2 m2.n2 m2.c2,.bool m3.b1,.slice m3.a1 m3.n1 m3.c1,.bool m3.b2,.slice m3.a2 m3.n2 m3.c2,.bool m4.b1,.slice m4.a1 m4.n1 m4.c1,.bool m4.b2,.slice m4.a2 m4.n2 m4.c2] (0,0) _ (Z0.out _ hx3.out) Tryz.underlying140 rfl (by kernel_rfl) ?_)
  | (replace tok:Tok 3:=nxT 2 tok;refine wpList_load_row (by rfl) 30 (.tmp 3) rfl (w.heap.size+1) rfl 30 #[.bool g1.b1,.slice g1.a1 g1.n1 g1.c1,.bool g1.b2,.slice g1.a2 g1.n2 g1.c2,.bool g2.b1,.slice g2.a1 g2.n1 g2.c1,.bool g2.b2,.slice g2.a2 g2.n2 g2.c2] (0,0) _ (Z1.out _ hx3.out) Tryz.underlying30 rfl (by kernel_rfl) ?_)
  | (replace tok:Tok 4:=nxT 3 tok;go_at_call 151;refine (KS.out _ hx3.out).mono ?_;rintro e w4 ⟨rfl,hx4⟩;(replace hx4:=mK (hx3.out.trans hx4))))
 first|go_ret|go_ret2
 exact ⟨rfl,hE2.out.trans hx4.out⟩
theorem Adi (f:FV)(x:Rat)(w:World)(hx:nf x≤2048)(h:FracR w (.agg #[.bool f.b1,.slice f.a1 f.n1 f.c1,.bool f.b2,.slice f.a2 f.n2 f.c2]) x) :
  Calls Tryz.prog 153 #[.agg #[.bool f.b1,.slice f.a1 f.n1 f.c1,.bool f.b2,.slice f.a2 f.n2 f.c2]] w fun e w'=>e=.returned (.tuple #[.agg #[.bool f.b1,.slice f.a1 f.n1 f.c1,.bool f.b2,.slice f.a2 f.n2 f.c2],.int .i64 0])∧Ext w w':=by
 obtain ⟨w2,hw2⟩:=nmE (((w.alloc (.cells #[.bool f.b1,.slice f.a1 f.n1 f.c1,.bool f.b2,.slice f.a2 f.n2 f.c2] 28)).alloc (.cells #[.bool false,.slice none 0 0,.bool false,.slice none 0 0] 28)).alloc (.cells #[.bool f.b1,.slice f.a1 f.n1 f.c1,.bool f.b2,.slice f.a2 f.n2 f.c2] 28));have hE2:=aLe3 hw2;have z0:=aL30 hw2;have z1:=aL31 hw2;have z2:=aL32 hw2;have K:Calls Tryz.prog 213 #[.slice (some ⟨w.heap.size+2,0,none⟩) 1 1] w2 fun e w'=>e=.returned (.bool ([x].any fun x=>decide (2048<nf x)))∧Ext w2 w':=Pn (w.heap.size+2) 1 [x] w2 (by simp) (by intro z hz;simp at hz;subst hz;omega) (Uf z2 (h.ext hE2));rw [show ([x].any fun x=>decide (2048<nf x))=false by simp;omega] at K;replace K:=mK K;have Z0:=mK (fun W (e:Ext w2 W)=>e.blk z0);have Z1:=mK (fun W (e:Ext w2 W)=>e.blk z1);replace hw2:=mK hw2;replace hE2:=mK hE2;clear z0 z1 z2 h hx;go_enter Tryz.func153,Tryz.ntmps153;have tok:Tok 0:=.mk _
 go_wp2_with (first
  | (replace tok:Tok 1:=nxT 0 tok;go_at_call 213;rw [←hw2.out];refine K.out.mono ?_;rintro e w3 ⟨rfl,hx3⟩;(replace hx3:=mK hx3))
  | (replace tok:Tok 2:=nxT 1 tok;refine wpList_load_row (by rfl) 28 (.tmp 1) rfl w.heap.size rfl 28 #[.bool f.b1,.slice f.a1 f.n1 f.c1,.bool f.b2,.slice f.a2 f.n2 f.c2] (0,0) _ (Z0.out _ hx3.out) Tryz.underlying28 rfl (by kernel_rfl) ?_)
  | (replace tok:Tok 3:=nxT 2 tok;refine wpList_store_row rfl 28 (.tmp 2) (.tmp 8) rfl (w.heap.size+1) #[.bool f.b1,.slice f.a1 f.n1 f.c1,.bool f.b2,.slice f.a2 f.n2 f.c2] rfl rfl 28 _ (Z1.out _ hx3.out) (by kernel_rfl) rfl (by kernel_rfl) ?_))
 exact bodyPost_ret (Aj rfl _ _ (w.heap.size+1) 28 #[.bool f.b1,.slice f.a1 f.n1 f.c1,.bool f.b2,.slice f.a2 f.n2 f.c2] _ _ rfl rfl (setRow_heap _ _ _ _ _ _ (Z1.out _ hx3.out)) Tryz.underlying28 rfl (by kernel_rfl)) rfl ⟨rfl,(hE2.out.trans hx3.out).row (by omega) _⟩
def Eo (m:Mat4)(y t:Rat):Rat:=(-4)*(m.2.1*En m y t)/Ck m
def Oi (b0:Nat)(w:World)(v:Value)(x:Rat):Prop:=∃ f:FV,v=.tuple #[.agg #[.bool f.b1,.slice f.a1 f.n1 f.c1,.bool f.b2,.slice f.a2 f.n2 f.c2],.int .i64 0]∧FracO w b0 (.agg #[.bool f.b1,.slice f.a1 f.n1 f.c1,.bool f.b2,.slice f.a2 f.n2 f.c2]) x
theorem Aan {ss:List FSpec}(b:Nat)(q:Rat)(h:StableAll Ext ss):StableAll Ext (.pred (fun W v=>Oi b W v q)::ss):=⟨fun _ _ _ e h=>by obtain ⟨f,e0,h1⟩:=h;exact ⟨f,e0,h1.ext e⟩,h⟩
theorem Qi {b0:Nat}{w:World}{v:Value}{x:Rat}(h:Oi b0 w v x):∃ f:FV,v=.tuple #[.agg #[.bool f.b1,.slice f.a1 f.n1 f.c1,.bool f.b2,.slice f.a2 f.n2 f.c2],.int .i64 0]:=by
 obtain ⟨f,e,-⟩:=h;exact ⟨f,e⟩
theorem Aaf {b0:Nat}{w:World}{f:FV}{x:Rat}(h:Oi b0 w (.tuple #[.agg #[.bool f.b1,.slice f.a1 f.n1 f.c1,.bool f.b2,.slice f.a2 f.n2 f.c2],.int .i64 0]) x):FracO w b0 (.agg #[.bool f.b1,.slice f.a1 f.n1 f.c1,.bool f.b2,.slice f.a2 f.n2 f.c2]) x:=by
 obtain ⟨g,e,k⟩:=h;rw [show (Value.agg #[.bool f.b1,.slice f.a1 f.n1 f.c1,.bool f.b2,.slice f.a2 f.n2 f.c2])=.agg #[.bool g.b1,.slice g.a1 g.n1 g.c1,.bool g.b2,.slice g.a2 g.n2 g.c2] by simpa using e];exact k
theorem Rs:nf (-4:Rat)≤2048:=Fg (-4) (by decide) (by decide)
theorem Abd (v r:Value)(m:Mat4)(y t:Rat)(w:World)(hk:k4 m)(h:M4R w v m)(hr:RyR w r y t)(hy:nf y≤2048)(ht:nf t≤2048)(hd:m.1*m.2.2.2-m.2.1*m.2.2.1=1)(hS:(Ck m).num.sign=1)(hX:nf (Eo m y t)≤2048) :
  Calls Tryz.prog 107 #[v,r] w fun e w'=>∃ v,e=.returned (.tuple #[v,.int .i64 0])∧Ext w w'∧FracO w' w.heap.size v (Eo m y t):=by
 obtain ⟨m1,m2,m3,m4,rfl,hm1,hm2,hm3,hm4⟩:=id h;obtain ⟨g1,g2,rfl,hg1,hg2⟩:=id hr;obtain ⟨w2,hw2⟩:=nmE (((w.alloc (.cells #[.bool m1.b1,.slice m1.a1 m1.n1 m1.c1,.bool m1.b2,.slice m1.a2 m1.n2 m1.c2,.bool m2.b1,.slice m2.a1 m2.n1 m2.c1,.bool m2.b2,.slice m2.a2 m2.n2 m2.c2,.bool m3.b1,.slice m3.a1 m3.n1 m3.c1,.bool m3.b2,.slice m3.a2 m3.n2 m3.c2,.bool m4.b1,.slice m4.a1 m4.n1 m4.c1,.bool m4.b2,.slice m4.a2 m4.n2 m4.c2] 140)).alloc (.cells #[.bool g1.b1,.slice g1.a1 g1.n1 g1.c1,.bool g1.b2,.slice g1.a2 g1.n2 g1.c2,.bool g2.b1,.slice g2.a1 g2.n1 g2.c1,.bool g2.b2,.slice g2.a2 g2.n2 g2.c2] 30)).alloc (.cells #[.bool false,.slice none 0 0,.bool false,.slice none 0 0] 28));have hE2:=aLe3 hw2;have z0:=aL30 hw2;have z1:=aL31 hw2;have z2:=aL32 hw2;have hs:=aLs3 hw2;have S0:Ck m≠0:=fun e=>by rw [e] at hS;cases hS
 have nS:nf (Ck m)≤65536:=by
  have a1:=Ef m.1 m.2.2.2;have a2:=Bj (m.1+m.2.2.2) (m.1+m.2.2.2);have a3:=Kb 4 ((m.1+m.2.2.2)*(m.1+m.2.2.2));have a4:=Ik;have:=hk.1;have:=hk.2.2.2;unfold Ck;omega
 have nF:nf (En m y t)≤65536:=by
  have a1:=Bj m.1 y;have a2:=Bj m.2.1 t;have a3:=Ef (m.1*y) (m.2.1*t);have a4:=Bj m.2.2.1 y;have a5:=Bj m.2.2.2 t;have a6:=Ef (m.2.2.1*y) (m.2.2.2*t);have a7:=Bj y (m.2.2.1*y+m.2.2.2*t);have a8:=Bj t (m.1*y+m.2.1*t);have a9:=Kb (y*(m.2.2.1*y+m.2.2.2*t)) (t*(m.1*y+m.2.1*t));obtain ⟨q1,q2,q3,q4⟩:=hk;unfold En;omega
 have nB:=hk.2.1;have n5:=Bj m.2.1 (En m y t);have n6:=Bj (-4) (m.2.1*En m y t);have n7:=Rs;have KF:=mK (Wa _ _ m y t w2 (MtR.ext h hE2) hk hd (hr.ext hE2) hy ht);have KY:=mK (fun W (e:Ext w2 W)=>Rm _ _ m y t W hk.s (MtR.ext h (hE2.trans e)) (hr.ext (hE2.trans e)) hS);have KS:=mK (fun W (e:Ext w2 W)=>Rn _ m W hk.s (MtR.ext h (hE2.trans e)));have KG:=fun v W (h:FracR W v (Ck m))=>Jt v (Ck m) W (by omega) h;rw [hS] at KG;replace KG:=mK KG;have K1:=fun W=>Op (-4) 1 W (by omega) (by omega) (by omega) (by omega) (by omega);rw [show Rat.divInt (-4) 1=(-4:Rat) by rfl] at K1;replace K1:=mK K1;have K2:=mK (fun W (e:Ext w2 W)=>Adk _ _ m y t W hk.s ⟨by omega,by omega⟩ (MtR.ext h (hE2.trans e)) (hr.ext (hE2.trans e)));have K3:=mK (fun v W (e:Ext w2 W) hv=>Es (.agg #[.bool m2.b1,.slice m2.a1 m2.n1 m2.c1,.bool m2.b2,.slice m2.a2 m2.n2 m2.c2]) v m.2.1 (En m y t) W (by omega) (by omega) (hm2.ext (hE2.trans e)) hv);have K4:=mK (fun v v' W h h'=>Es v v' (-4) (m.2.1*En m y t) W (by omega) (by omega) h h');have K5:=fun v v' W h h'=>Aft v v' ((-4)*(m.2.1*En m y t)) (Ck m) W (by omega) (by omega) S0 h h';rw [show (-4)*(m.2.1*En m y t)/Ck m=Eo m y t from rfl] at K5;replace K5:=mK K5;have K6:=mK (fun f W h=>Adi f (Eo m y t) W hX h);have Z0:=mK (fun W (e:Ext w2 W)=>e.blk z0);have Z1:=mK (fun W (e:Ext w2 W)=>e.blk z1);have Z2:=mK (fun W (e:Ext w2 W)=>e.blk z2);replace hw2:=mK hw2;replace hE2:=mK hE2;replace hs:=mK hs;clear h hk hS hr hy ht hd z0 z1 z2 hm1 hm2 hm3 hm4 hg1 hg2 S0 nS nF nB n5 n6 n7 hX;go_enter Tryz.func107,Tryz.ntmps107;have tok:Tok 0:=.mk _
 go_wp2_with (first
  | (replace tok:Tok 1:=nxT 0 tok;go_at_call 150;rw [←hw2.out];refine KF.out.mono ?_;rintro e w3 ⟨rfl,hx3⟩;(replace hx3:=mK hx3))
  | (replace tok:Tok 2:=nxT 1 tok;refine wpList_load_row (by rfl) 140 (.tmp 2) rfl w.heap.size rfl 140 #[.bool m1.b1,.slice m1.a1 m1.n1 m1.c1,.bool m1.b2,.slice m1.a2 m1.n2 m1.c2,.bool m2.b1,.slice m2.a1 m2.n1 m2.c1,.bool m2.b2,.slice m2.a2 m2.n2 m2.c2,.bool m3.b1,.slice m3.a1 m3.n1 m3.c1,.bool m3.b2,.slice m3.a2 m3.n2 m3.c2,.bool m4.b1,.slice m4.a1 m4.n1 m4.c1,.bool m4.b2,.slice m4.a2 m4.n2 m4.c2] (0,0) _ (Z0.out _ hx3.out) Tryz.underlying140 rfl (by kernel_rfl) ?_)
  | (replace tok:Tok 3:=nxT 2 tok;refine wpList_load_row (by rfl) 30 (.tmp 3) rfl (w.heap.size+1) rfl 30 #[.bool g1.b1,.slice g1.a1 g1.n1 g1.c1,.bool g1.b2,.slice g1.a2 g1.n2 g1.c2,.bool g2.b1,.slice g2.a1 g2.n1 g2.c1,.bool g2.b2,.slice g2.a2 g2.n2 g2.c2] (0,0) _ (Z1.out _ hx3.out) Tryz.underlying30 rfl (by kernel_rfl) ?_)
  | (replace tok:Tok 4:=nxT 3 tok;go_at_call 151;refine (KY.out _ hx3.out).mono ?_;rintro e w4 ⟨rfl,hx4⟩;(replace hx4:=mK (hx3.out.trans hx4)))
  | (replace tok:Tok 5:=nxT 4 tok;refine wpList_load_row (by rfl) 140 (.tmp 2) rfl w.heap.size rfl 140 #[.bool m1.b1,.slice m1.a1 m1.n1 m1.c1,.bool m1.b2,.slice m1.a2 m1.n2 m1.c2,.bool m2.b1,.slice m2.a1 m2.n1 m2.c1,.bool m2.b2,.slice m2.a2 m2.n2 m2.c2,.bool m3.b1,.slice m3.a1 m3.n1 m3.c1,.bool m3.b2,.slice m3.a2 m3.n2 m3.c2,.bool m4.b1,.slice m4.a1 m4.n1 m4.c1,.bool m4.b2,.slice m4.a2 m4.n2 m4.c2] (0,0) _ (Z0.out _ hx4.out) Tryz.underlying140 rfl (by kernel_rfl) ?_)
  | (replace tok:Tok 6:=nxT 5 tok;go_at_call 152;refine (KS.out _ hx4.out).mono ?_;rintro e w5 ⟨vs,rfl,hx5,hs5⟩;(replace hs5:=mK hs5.r);(replace hx5:=mK (hx4.out.trans hx5)))
  | (replace tok:Tok 7:=nxT 6 tok;go_at_call 116;refine (KG.out _ _ hs5.out).mono ?_;rintro e w6 ⟨rfl,hx6⟩;(replace hx6:=mK (hx5.out.trans hx6))))
 have hs4:w.heap.size+3≤w6.heap.size:=by have:=hs.out;have:=hx6.out.size;omega
 have ZM:=mK (fun W (e:Ext w6 W)=>Z0.out W (hx6.out.trans e));have ZR:=mK (fun W (e:Ext w6 W)=>Z1.out W (hx6.out.trans e));have ZO:=mK (fun W (e:Ext w6 W)=>Z2.out W (hx6.out.trans e));have hE:=mK (hE2.out.trans hx6.out);have L1:=mK (fun W (_:Ext w6 W)=>K1.out W);have L2:=mK (fun W (e:Ext w6 W)=>K2.out W (hx6.out.trans e));have L3:=mK (fun v W (e:Ext w6 W) h=>K3.out v W (hx6.out.trans e) h);have L4:=mK (fun v v' W (_:Ext w6 W) h h'=>K4.out v v' W h h');have L5:=mK (fun v v' W (_:Ext w6 W) h h'=>K5.out v v' W h h');have L7:=mK (fun W (e:Ext w6 W)=>KS.out W (hx6.out.trans e));clear tok hs5 K1 K2 K3 K4 K5 KS KG KF KY Z0 Z1 Z2;apply Ak [.pred (fun W v=>FracO W (w.heap.size+3) v (-4)),.val (.pointer (some ⟨w.heap.size,4,none⟩)),.val (.agg #[.bool m2.b1,.slice m2.a1 m2.n1 m2.c1,.bool m2.b2,.slice m2.a2 m2.n2 m2.c2]),.val (.agg #[.bool m1.b1,.slice m1.a1 m1.n1 m1.c1,.bool m1.b2,.slice m1.a2 m1.n2 m1.c2,.bool m2.b1,.slice m2.a1 m2.n1 m2.c1,.bool m2.b2,.slice m2.a2 m2.n2 m2.c2,.bool m3.b1,.slice m3.a1 m3.n1 m3.c1,.bool m3.b2,.slice m3.a2 m3.n2 m3.c2,.bool m4.b1,.slice m4.a1 m4.n1 m4.c1,.bool m4.b2,.slice m4.a2 m4.n2 m4.c2]),.val (.agg #[.bool g1.b1,.slice g1.a1 g1.n1 g1.c1,.bool g1.b2,.slice g1.a2 g1.n2 g1.c2,.bool g2.b1,.slice g2.a1 g2.n1 g2.c1,.bool g2.b2,.slice g2.a2 g2.n2 g2.c2]),.pred (fun W v=>FracO W (w.heap.size+3) v (En m y t)),.pred (fun W v=>FracO W (w.heap.size+3) v (m.2.1*En m y t)),.pred (fun W v=>FracO W (w.heap.size+3) v ((-4)*(m.2.1*En m y t))),.val (.agg #[.bool m1.b1,.slice m1.a1 m1.n1 m1.c1,.bool m1.b2,.slice m1.a2 m1.n2 m1.c2,.bool m2.b1,.slice m2.a1 m2.n1 m2.c1,.bool m2.b2,.slice m2.a2 m2.n2 m2.c2,.bool m3.b1,.slice m3.a1 m3.n1 m3.c1,.bool m3.b2,.slice m3.a2 m3.n2 m3.c2,.bool m4.b1,.slice m4.a1 m4.n1 m4.c1,.bool m4.b2,.slice m4.a2 m4.n2 m4.c2]),.pred (fun W v=>FracO W (w.heap.size+3) v (Ck m)),.pred (fun W v=>FracO W (w.heap.size+3) v (Eo m y t)),.pred (fun W v=>Oi (w.heap.size+3) W v (Eo m y t)),.pred (fun W v=>FracO W (w.heap.size+3) v (Eo m y t)),.val (.int .i64 0)] (by kernel_rfl) (At _ _ (stable_vals _ (stable_vals _ (stable_vals _ (stable_vals _ (At _ _ (At _ _ (At _ _ (stable_vals _ (At _ _ (At _ _ (Aan _ _ (At _ _ (stable_vals (ss:=[]) _ trivial))))))))))))))
 refine ⟨fun W hW hF=>?g0,fun v100=>?_⟩
 case g0=>
  clear hF;go_simp;refine (L1.out W hW).mono ?_;rintro e w' ⟨v,rfl,h1,h2⟩;exact ⟨v,rfl,h1,h2.mono (nT hs4 hW.size)⟩
 refine ⟨fun W hW _=>by go_simp;first|exact ⟨xR _,rfl⟩|exact xR _,?_⟩;refine ⟨?l2,?_⟩
 case l2=>
  intro W hW hF;have hr:=ZM.out W hW;clear hF;with_reducible refine Ah ?zhw 28 (.tmp 32) ?zho (w.heap.size) 4 ?zhx 140 _ #[.bool m2.b1,.slice m2.a1 m2.n1 m2.c1,.bool m2.b2,.slice m2.a2 m2.n2 m2.c2] (0,0) _ hr ?zhs Tryz.underlying28 ?zhd ?zhi ?zh
  case zhw=>kernel_rfl
  case zho=>rfl
  case zhx=>kernel_rfl
  case zhs=>rfl
  case zhd=>rfl
  case zhi=>kernel_rfl
  case zh=>exact ⟨xR _,rfl⟩
 refine ⟨?l3,?_⟩
 case l3=>
  intro W hW hF;have hr:=ZM.out W hW;clear hF;with_reducible refine Ah ?zhw 140 (.tmp 2) ?zho (w.heap.size) 0 ?zhx 140 _ #[.bool m1.b1,.slice m1.a1 m1.n1 m1.c1,.bool m1.b2,.slice m1.a2 m1.n2 m1.c2,.bool m2.b1,.slice m2.a1 m2.n1 m2.c1,.bool m2.b2,.slice m2.a2 m2.n2 m2.c2,.bool m3.b1,.slice m3.a1 m3.n1 m3.c1,.bool m3.b2,.slice m3.a2 m3.n2 m3.c2,.bool m4.b1,.slice m4.a1 m4.n1 m4.c1,.bool m4.b2,.slice m4.a2 m4.n2 m4.c2] (0,0) _ hr ?zhs Tryz.underlying140 ?zhd ?zhi ?zh
  case zhw=>kernel_rfl
  case zho=>rfl
  case zhx=>kernel_rfl
  case zhs=>rfl
  case zhd=>rfl
  case zhi=>kernel_rfl
  case zh=>exact ⟨xR _,rfl⟩
 refine ⟨?l4,?_⟩
 case l4=>
  intro W hW hF;have hr:=ZR.out W hW;clear hF;with_reducible refine Ah ?zhw 30 (.tmp 3) ?zho (w.heap.size+1) 0 ?zhx 30 _ #[.bool g1.b1,.slice g1.a1 g1.n1 g1.c1,.bool g1.b2,.slice g1.a2 g1.n2 g1.c2,.bool g2.b1,.slice g2.a1 g2.n1 g2.c1,.bool g2.b2,.slice g2.a2 g2.n2 g2.c2] (0,0) _ hr ?zhs Tryz.underlying30 ?zhd ?zhi ?zh
  case zhw=>kernel_rfl
  case zho=>rfl
  case zhx=>kernel_rfl
  case zhs=>rfl
  case zhd=>rfl
  case zhi=>kernel_rfl
  case zh=>exact ⟨xR _,rfl⟩
 refine ⟨fun W hW hF=>?g5,fun v105=>?_⟩
 case g5=>
  clear hF;go_simp;refine (L2.out W hW).mono ?_;rintro e w' ⟨v,rfl,h1,h2⟩;exact ⟨v,rfl,h1,h2.mono (nT hs4 hW.size)⟩
 refine ⟨fun W hW hF=>?g6,fun v106=>?_⟩
 case g6=>
  have d5:Hid (FracO W (w.heap.size+3) v105 (En m y t)):=hF.1 (by kernel_rfl);clear hF;go_simp;refine (L3.out v105 W hW (d5.out.r)).mono ?_;rintro e w' ⟨v,rfl,h1,h2⟩;exact ⟨v,rfl,h1,h2.mono (nT hs4 hW.size)⟩
 refine ⟨fun W hW hF=>?g7,fun v107=>?_⟩
 case g7=>
  have d0:Hid (FracO W (w.heap.size+3) v100 (-4)):=hF.2.2.1 (by kernel_rfl);have d6:Hid (FracO W (w.heap.size+3) v106 (m.2.1*En m y t)):=hF.1 (by kernel_rfl);clear hF;go_simp;refine (L4.out v100 v106 W hW (d0.out.r) (d6.out.r)).mono ?_;rintro e w' ⟨v,rfl,h1,h2⟩;exact ⟨v,rfl,h1,h2.mono (nT hs4 hW.size)⟩
 refine ⟨?l8,?_⟩
 case l8=>
  intro W hW hF;have hr:=ZM.out W hW;clear hF;with_reducible refine Ah ?zhw 140 (.tmp 2) ?zho (w.heap.size) 0 ?zhx 140 _ #[.bool m1.b1,.slice m1.a1 m1.n1 m1.c1,.bool m1.b2,.slice m1.a2 m1.n2 m1.c2,.bool m2.b1,.slice m2.a1 m2.n1 m2.c1,.bool m2.b2,.slice m2.a2 m2.n2 m2.c2,.bool m3.b1,.slice m3.a1 m3.n1 m3.c1,.bool m3.b2,.slice m3.a2 m3.n2 m3.c2,.bool m4.b1,.slice m4.a1 m4.n1 m4.c1,.bool m4.b2,.slice m4.a2 m4.n2 m4.c2] (0,0) _ hr ?zhs Tryz.underlying140 ?zhd ?zhi ?zh
  case zhw=>kernel_rfl
  case zho=>rfl
  case zhx=>kernel_rfl
  case zhs=>rfl
  case zhd=>rfl
  case zhi=>kernel_rfl
  case zh=>exact ⟨xR _,rfl⟩
 refine ⟨fun W hW hF=>?g9,fun v109=>?_⟩
 case g9=>
  clear hF;go_simp;refine (L7.out W hW).mono ?_;rintro e w' ⟨v,rfl,h1,h2⟩;exact ⟨v,rfl,h1,h2.mono (nT hs4 hW.size)⟩
 refine ⟨fun W hW hF=>?g10,fun v110=>?_⟩
 case g10=>
  have d7:Hid (FracO W (w.heap.size+3) v107 ((-4)*(m.2.1*En m y t))):=hF.2.1 (by kernel_rfl);have d9:Hid (FracO W (w.heap.size+3) v109 (Ck m)):=hF.1 (by kernel_rfl);clear hF;go_simp;refine (L5.out v107 v109 W hW (d7.out.r) (d9.out.r)).mono ?_;rintro e w' ⟨v,rfl,h1,h2⟩;exact ⟨v,rfl,h1,h2.mono (nT hs4 hW.size)⟩
 refine ⟨fun W hW hF=>?g11,fun v111=>?_⟩
 case g11=>
  have dx:FracO W (w.heap.size+3) v110 (Eo m y t):=hF.1 (by kernel_rfl);clear hF;obtain ⟨f,e⟩:=Bh dx;subst e;replace dx:=mK dx;go_simp;refine (K6.out f W dx.out.r).mono ?_;rintro e w' ⟨rfl,h1⟩;exact ⟨_,rfl,h1,f,rfl,dx.out.ext h1⟩
 refine ⟨fun W hW hF=>?g12,fun v112=>?_⟩
 case g12=>
  have d0:Oi (w.heap.size+3) W v111 (Eo m y t):=hF.1 (by kernel_rfl);clear hF;go_simp;refine no_implicit_lambda% (Exists.elim (Qi d0) fun f e=>?_);subst e;have dx:=mK (Aaf d0);clear d0;go_simp
  first
   | exact ⟨xR _,dx.out⟩
   | exact ⟨_,rfl,xR _,dx.out⟩
 refine ⟨?l13,fun W hW hF=>?fin⟩
 case l13=>
  intro W hW hF;have d0:Oi (w.heap.size+3) W v111 (Eo m y t):=hF.2.1 (by kernel_rfl);clear hF;go_simp;refine no_implicit_lambda% (Exists.elim (Qi d0) fun f e=>?_);clear d0;subst e;go_simp
  first
   | exact ⟨xR _,rfl⟩
   | exact xR _
 case fin=>
  have dz:FracO W (w.heap.size+3) v112 (Eo m y t):=hF.1 rfl;obtain ⟨g,rfl⟩:=Bh dz;have hBW:=ZO.out W hW;have FR:=(dz.row (g:=w.heap.size+2) (by omega) #[.bool g.b1,.slice g.a1 g.n1 g.c1,.bool g.b2,.slice g.a2 g.n2 g.c2]).mono (show w.heap.size≤(w.heap.size+3) by omega);have FE:=mK ((hE.out.trans hW).row (show w.heap.size≤w.heap.size+2 by omega) #[.bool g.b1,.slice g.a1 g.n1 g.c1,.bool g.b2,.slice g.a2 g.n2 g.c2]);replace FR:=mK FR;clear hF dz hW;go_simp;go_wp2_with (refine wpList_store_row rfl 28 (.tmp 4) (.tmp 43) rfl (w.heap.size+2) #[.bool g.b1,.slice g.a1 g.n1 g.c1,.bool g.b2,.slice g.a2 g.n2 g.c2] rfl rfl 28 _ hBW (by kernel_rfl) rfl (by kernel_rfl) ?_);exact bodyPost_ret (Aj rfl _ _ (w.heap.size+2) 28 #[.bool g.b1,.slice g.a1 g.n1 g.c1,.bool g.b2,.slice g.a2 g.n2 g.c2] _ _ rfl rfl (setRow_heap _ _ _ _ _ _ hBW) Tryz.underlying28 rfl (by kernel_rfl)) rfl ⟨_,rfl,FE.out,FR.out⟩
end Go.Proofs.YtlknpnommcohkaaGreatDoor
namespace Go.Proofs.YtlknpnommcohkaaGreatDoor
set_option maxRecDepth 100000
open Go Go.ChangeShapes Go.WideShapes Go.ChangeAt Go.RowKit Go.Joins Go.Deep
def RawPart (w:World)(v:Value):Prop:=∃ (nm:ByteArray) (kd co:Int) (p q:FV),v=.agg #[.string nm,.int .u8 kd,.bool p.b1,.slice p.a1 p.n1 p.c1,.bool p.b2,.slice p.a2 p.n2 p.c2,.bool q.b1,.slice q.a1 q.n1 q.c1,.bool q.b2,.slice q.a2 q.n2 q.c2,.int .i64 co]∧nm.size≤140737488355328∧RawF w (.agg #[.bool p.b1,.slice p.a1 p.n1 p.c1,.bool p.b2,.slice p.a2 p.n2 p.c2])∧RawF w (.agg #[.bool q.b1,.slice q.a1 q.n1 q.c1,.bool q.b2,.slice q.a2 q.n2 q.c2])
section
variable {H:Type} {enc:TypeId×Value→H} {w:World} {base:Nat} {spare:Nat→Bool} {held:Bool}
end
end Go.Proofs.YtlknpnommcohkaaGreatDoor
namespace Go.Proofs.YtlknpnommcohkaaGreatDoor
set_option maxRecDepth 100000
open Go Go.RowKit Go.Proofs
theorem Dc {P:Program}{S:World→Value→Prop}{o:Oper}{a:Act}{W:World}{X:Prop}{c:Prop}{ic:Decidable c}(hw:c)(ty:TypeId)(x:Operand)(ho:o.op=.load ty x)
  (b k:Nat) (hx:a.eval x=.pointer (some ⟨b,k,none⟩)) (cs:List Value) (d:TypeDesc) (hc:W.rangeAt b k cs)
  (hu:P.underlying ty=some d) (hd:d.isRow=true) (hi:(P.info? ty).map (·.size)=some cs.length)
  (h:S W (.agg cs.toArray)):if c then Da P S ((execOp a.eval o).run P W) else X:=by
 rw [if_pos hw];unfold execOp;simp only [ho,hx,Instr.loadAt,Instr.sureAddr,Sem.run_bind,Sem.run_pure,Result.andThen_ok,run_loadVar_mid W b k ty cs d hc hu hd hi];exact h
theorem Cv {w w':World}{b o:Nat}{cs:List Value}(h:w.rangeAt b o cs)(e:Ext w w'):w'.rangeAt b o cs:=fun j v hv=>e.cell (h j v hv)
theorem Re {w:World}{b o:Nat}{cs:List Value}(h:w.rangeAt b o cs)(k n:Nat):w.rangeAt b (o+k) ((cs.drop k).take n):=fun j v hv=>by
 have h1:cs[k+j]? = some v:=by
  rw [List.getElem?_take] at hv;split at hv
  ·rwa [List.getElem?_drop] at hv
  ·cases hv
 have:=h (k+j) v h1
 rwa [←Nat.add_assoc] at this
def Dz (n1 n2 n3 n4:Nat):Int:=Bq n1 n2+Bq n3 n4
theorem Ie (kd:Int)(b1:Bool)(a1:Option Addr)(n1 c1:Nat)(b2:Bool)(a2:Option Addr)(n2 c2:Nat)(b3:Bool)(a3:Option Addr)(n3 c3:Nat)(b4:Bool)(a4:Option Addr)(n4 c4:Nat)(w:World)(hn1:n1≤140737488355328)(hn2:n2≤140737488355328)(hn3:n3≤140737488355328)(hn4:n4≤140737488355328) :
  Calls Tryz.prog 53 #[.agg #[.int .u8 kd,.bool b1,.slice a1 n1 c1,.bool b2,.slice a2 n2 c2,.bool b3,.slice a3 n3 c3,.bool b4,.slice a4 n4 c4]] w fun e w'=>e=.returned (.int .i64 (Dz n1 n2 n3 n4))∧Ext w w':=by
 have k1:=mK (fun w=>Db b1 b2 a1 a2 n1 c1 n2 c2 w hn1 hn2);have k2:=mK (fun w=>Db b3 b4 a3 a4 n3 c3 n4 c4 w hn3 hn4);obtain ⟨s1,s2,-,-⟩:=Bi n1 n2 hn1 hn2;obtain ⟨t1,t2,-,-⟩:=Bi n3 n4 hn3 hn4;unfold Dz;obtain ⟨S,hS⟩:=nmE (Bq n1 n2:Int);obtain ⟨T,hT⟩:=nmE (Bq n3 n4:Int);rw [←hS] at k1 s1 s2;rw [←hT] at k2 t1 t2;rw [←hS,←hT];clear hS hT hn1 hn2 hn3 hn4;go_enter Tryz.func53,Tryz.ntmps53;go_wp2_with fail;obtain ⟨wb,hwb⟩:=nmE (w.alloc (.cells #[.int .u8 kd,.bool b1,.slice a1 n1 c1,.bool b2,.slice a2 n2 c2,.bool b3,.slice a3 n3 c3,.bool b4,.slice a4 n4 c4] 72));have hE:=mK (aLe1 hwb);have z0:=aL10 hwb;obtain ⟨-,z_1,z_2,z_3,z_4,z_5,z_6,z_7,z_8⟩:=ceX8 z0;rw [←hwb];clear hwb z0;apply Ak [.val _,.val _,.val (.int .i64 S),.val _,.val _,.val (.int .i64 T),.val (.int .i64 (S+T))] (by kernel_rfl) (stable_vals _ (stable_vals _ (stable_vals _ (stable_vals _ (stable_vals _ (stable_vals _ (stable_vals _ trivial)))))));iterate 2 (refine ⟨fun W hW _=>by go_simp;exact ⟨xR _,rfl⟩,?_⟩)
 refine ⟨fun W hW _=>?g2,?_⟩
 case g2=>
  go_simp;refine (k1.out W).mono ?_;rintro e w' ⟨rfl,h1⟩;exact ⟨rfl,h1⟩
 iterate 2 (refine ⟨fun W hW _=>by go_simp;exact ⟨xR _,rfl⟩,?_⟩)
 refine ⟨fun W hW _=>?g5,⟨fun W hW _=>by go_simp;exact ⟨xR _,by rw [IntKind.wrap_i64];omega⟩,?_⟩⟩
 case g5=>
  go_simp;refine (k2.out W).mono ?_;rintro e w' ⟨rfl,h1⟩;exact ⟨rfl,h1⟩
 intro W hW _;clear z_1 z_2 z_3 z_4 z_5 z_6 z_7 z_8;replace hE:=mK (hE.out.trans hW);clear hW;go_simp;go_wp2_with fail;go_ret;exact ⟨by trivial,hE.out⟩
theorem RawPart.lens {w:World}{v:Value}(h:RawPart w v):∃ (nm:ByteArray) (kd co:Int) (p q:FV),v=.agg #[.string nm,.int .u8 kd,.bool p.b1,.slice p.a1 p.n1 p.c1,.bool p.b2,.slice p.a2 p.n2 p.c2,.bool q.b1,.slice q.a1 q.n1 q.c1,.bool q.b2,.slice q.a2 q.n2 q.c2,.int .i64 co]∧nm.size≤140737488355328∧p.n1≤140737488355328∧p.n2≤140737488355328∧q.n1≤140737488355328∧q.n2≤140737488355328:=by
 obtain ⟨nm,kd,co,p,q,e,hs,f1,f2⟩:=h;obtain ⟨b1,a1,c1,b2,a2,c2,l1,l2,e1,k1,k2,-,-⟩:=f1;obtain ⟨b3,a3,c3,b4,a4,c4,l3,l4,e2,k3,k4,-,-⟩:=f2;simp only [Value.agg.injEq,Array.mk.injEq,List.cons.injEq,and_true,Value.slice.injEq] at e1 e2;exact ⟨nm,kd,co,p,q,e,hs,by omega,by omega,by omega,by omega⟩
theorem LIn.slice {n:Nat}{R:World→Value→Prop}{w:World}{s:Value}{vs:List Value}(h:LIn n R w s vs):∃ a c,s=.slice a vs.length c∧vs.length≤c:=by
 obtain ⟨a,c,h1,h2,-⟩:=h.at';exact ⟨a,c,h1,h2⟩
theorem LIn.get {n:Nat}{R:World→Value→Prop}{w:World}{s:Value}{vs:List Value}(h:LIn n R w s vs)(hn:0<n){k:Nat}(hk:k<vs.length):∃ b o c,s=.slice (some ⟨b,o,none⟩) vs.length c∧vs.length≤c∧w.rangeAt b (o+k*n) vs[k].cells.toList:=by
 obtain ⟨a,c,h1,h2,h3⟩:=h.at';obtain ⟨b,o,rfl,h4⟩:=Acf h3 h.sz hn hk;exact ⟨b,o,c,h1,h2,h4⟩
theorem LIn.ext {n:Nat}{R:World→Value→Prop}{w w':World}{s:Value}{vs:List Value}(h:LIn n R w s vs)(hR:∀ v,R w v→R w' v)(e:Ext w w'):LIn n R w' s vs:=by
 obtain ⟨⟨a,c,h1,h2,h3⟩,h4,h5,h6⟩:=h;exact ⟨⟨a,c,h1,h2,h3.ext e⟩,h4,fun v hv=>hR v (h5 v hv),h6⟩
theorem Jv {w w':World}{v:Value}(h:RawF w v)(e:Ext w w'):RawF w' v:=by
 obtain ⟨b1,a1,c1,b2,a2,c2,l1,l2,e0,k1,k2,k3,k4⟩:=h;exact ⟨b1,a1,c1,b2,a2,c2,l1,l2,e0,k1,k2,k3.ext e,k4.ext e⟩
theorem RawE.ext {w w':World}{v:Value}(h:RawE w v)(e:Ext w w'):RawE w' v:=by
 obtain ⟨kd,p,q,e0,h1,h2⟩:=h;exact ⟨kd,p,q,e0,Jv h1 e,Jv h2 e⟩
theorem RawQ.ext {w w':World}{v:Value}(h:RawQ w v)(e:Ext w w'):RawQ w' v:=by
 obtain ⟨nm,kd,co,p,q,e0,hs,h1,h2⟩:=h;exact ⟨nm,kd,co,p,q,e0,hs,Jv h1 e,Jv h2 e⟩
theorem Au {w:World}{f:FV}(h:RawF w (.agg #[.bool f.b1,.slice f.a1 f.n1 f.c1,.bool f.b2,.slice f.a2 f.n2 f.c2])):f.n1≤140737488355328∧f.n2≤140737488355328:=by
 obtain ⟨b1,a1,c1,b2,a2,c2,l1,l2,e1,k1,k2,-,-⟩:=h;simp only [Value.agg.injEq,Array.mk.injEq,List.cons.injEq,and_true,Value.slice.injEq] at e1;omega
def slN:Option Value→Nat
 | some (.slice _ n _)=>n
 | _=>0
def elE (v:Value):Int:=Dz (slN v.cells[2]?) (slN v.cells[4]?) (slN v.cells[6]?) (slN v.cells[8]?)
def frE1 (v:Value):Int:=Bq (slN v.cells[1]?) (slN v.cells[3]?)
def ptE (v:Value):Int:=(match v.cells[0]? with|some (Value.string s)=>(s.size:Int)|_=>0)+Dz (slN v.cells[3]?) (slN v.cells[5]?) (slN v.cells[7]?) (slN v.cells[9]?)
def coF (E:Value→Int):Int→List Value→Int
 | n,[]=>n
 | n,v::r=>if n≤1048576 then coF E (n+E v) r else n
theorem Ks (E:Value→Int):∀ (l:List Value) (n:Int),(∀ v∈l,0≤E v∧E v≤2251799813685248)→0≤n→n≤4503599627370496→n≤coF E n l∧coF E n l≤4503599627370496
 | [],n,_,_,h=>⟨Int.le_refl _,h⟩
 | v::r,n,hE,h0,h1=>by
  obtain ⟨e1,e2⟩:=hE v (List.mem_cons_self ..)
  unfold coF
  split
  ·have:=Ks E r (n+E v) (fun x hx=>hE x (List.mem_cons_of_mem _ hx)) (by omega) (by omega)
   omega
  ·omega
theorem Hw (E:Value→Int):∀ (l:List Value) (n:Int),(∀ v∈l,0≤E v∧E v≤2251799813685248)→0≤n→n≤4503599627370496→coF E n l≤1048576→∀ v∈l,E v≤1048576
 | [],_,_,_,_,_,v,hv=>by cases hv
 | x::r,n,hE,h0,h1,h,v,hv=>by
  obtain ⟨e1,e2⟩:=hE x (List.mem_cons_self ..)
  have hr:∀ y∈r,0≤E y∧E y≤2251799813685248:=fun y hy=>hE y (List.mem_cons_of_mem _ hy)
  unfold coF at h
  split at h
  ·rename_i hn
   have:=(Ks E r (n+E x) hr (by omega) (by omega)).1
   rcases List.mem_cons.1 hv with rfl|hv
   ·omega
   ·exact Hw E r (n+E x) hr (by omega) (by omega) h v hv
  ·omega
theorem Qa {E:Value→Int}{n:Int}{l:List Value}(h:¬n≤1048576):coF E n l=n:=by
 cases l with
 | nil=>rfl
 | cons v r=>unfold coF;rw [if_neg h]
def CoR (E:Value→Int)(w1:World)(vs:List Value)(t3 t4:Value)(wr:World):Prop:=
 ∃ (n:Int) (k:Nat),k≤vs.length∧t3=.int .i64 n∧t4=.int .i64 k∧0≤n∧n≤4503599627370496∧coF E n (vs.drop k)=coF E vs.length vs∧Ext w1 wr
def CoQ (E:Value→Int)(w:World)(vs:List Value)(e:Ending)(w':World):Prop:=e=.returned (.int .i64 (coF E vs.length vs))∧Ext w w'
theorem Mn {E:Value→Int}{n:Int}{vs:List Value}{k:Nat}(hk:k<vs.length)(hn:n≤1048576):coF E n (vs.drop k)=coF E (n+E vs[k]) (vs.drop (k+1)):=by
 rw [List.drop_eq_getElem_cons hk]
 conv=>lhs;unfold coF
 rw [if_pos hn]
theorem Zf (s:Value)(vs:List Value)(w:World)(h:LIn 9 RawE w s vs) :
  Calls Tryz.prog 15 #[s] w (CoQ elE w vs):=by
 obtain ⟨a,c,hs0,hc0⟩:=h.slice;have hlen:=h.len;have hI:=mK (fun W (e:Ext w W)=>LIn.ext (w':=W) h (fun _ v=>RawE.ext v e) e);obtain ⟨w1,hw1⟩:=nmE w;rw [←hw1] at hI ⊢;have hs:=mK hs0;subst hs0;clear h hw1;go_enter Tryz.func15,Tryz.ntmps15;go_wp2_with fail;have st:Hid (CoR elE w1 vs (.int .i64 vs.length) (.int .i64 0) w1):=⟨vs.length,0,Nat.zero_le _,rfl,rfl,by omega,by omega,by rw [List.drop_zero],xR _⟩
 go_loopw [3,4] (fun t3 t4 wr=>CoR elE w1 vs t3 t4 wr) (fun _ t4 _=>vs.length-(intOf t4).toNat)
 case atStart=>exact st.out
 case round=>
  clear st;obtain ⟨n,k,hk,rfl,rfl,hn0,hn1,hsm,hEr⟩:=hrel;obtain ⟨w2,rfl⟩:=nmE (wr:World);by_cases hlt:k<vs.length
  ·have hlt':(k:Int)<(vs.length:Int):=by omega
   by_cases hm:n≤1048576
   ·have hI2:=hI.out w2 hEr
    obtain ⟨b,o,c',e1,hcc,hr⟩:=hI2.get (by decide) hlt;simp only [Value.slice.injEq,true_and] at e1;obtain ⟨rfl,rfl⟩:=e1;obtain ⟨kd,p,q,ev,g1,g2⟩:=hI2.raw _ (List.getElem_mem hlt);obtain ⟨z1,z2⟩:=Au g1;obtain ⟨z3,z4⟩:=Au g2;rw [ev] at hr;replace hr:w2.rangeAt b (o+k*9) [.int .u8 kd,.bool p.b1,.slice p.a1 p.n1 p.c1,.bool p.b2,.slice p.a2 p.n2 p.c2,.bool q.b1,.slice q.a1 q.n1 q.c1,.bool q.b2,.slice q.a2 q.n2 q.c2]:=hr;have KC:=mK (fun W=>Ie kd p.b1 p.a1 p.n1 p.c1 p.b2 p.a2 p.n2 p.c2 q.b1 q.a1 q.n1 q.c1 q.b2 q.a2 q.n2 q.c2 W z1 z2 z3 z4);obtain ⟨s1,s2,s3,s4⟩:=Bi p.n1 p.n2 z1 z2;obtain ⟨t1,t2,t3,t4⟩:=Bi q.n1 q.n2 z3 z4;obtain ⟨E,hE⟩:=nmE (Dz p.n1 p.n2 q.n1 q.n2:Int);have hE0:0≤E:=by rw [hE];unfold Dz;omega
    have hE1:E≤1125899906842624:=by rw [hE];unfold Dz;omega
    rw [←hE] at KC
    have hnew:∀ W v4,Ext w2 W→v4=.int .i64 ((k+1:Nat):Int)→CoR elE w1 vs (.int .i64 (n+E)) v4 W:=by
     intro W v4 hW hv4;refine ⟨n+E,k+1,by omega,rfl,hv4,by omega,by omega,?_,hEr.trans hW⟩;rw [←hsm,Mn hlt hm];congr 1;rw [ev,hE];rfl
    have hwr:IntKind.i64.wrap (n+E)=n+E:=by rw [IntKind.wrap_i64];omega
    replace hnew:=mK hnew;replace hEr:=mK hEr;replace hr:=mK hr;clear hI2 hsm ev hE g1 g2 s1 s2 s3 s4 t1 t2 t3 t4 z1 z2 z3 z4;have tok:Tok 0:=.mk _
    go_wp2_with (first
     | (replace tok:Tok 1:=nxT 0 tok;refine wpList_load_mid (by rfl) 72 (.tmp 20) rfl b (o+k*9) rfl [.int .u8 kd,.bool p.b1,.slice p.a1 p.n1 p.c1,.bool p.b2,.slice p.a2 p.n2 p.c2,.bool q.b1,.slice q.a1 q.n1 q.c1,.bool q.b2,.slice q.a2 q.n2 q.c2] _ hr.out Tryz.underlying72 rfl (by kernel_rfl) ?_)
     | (replace tok:Tok 2:=nxT 1 tok;go_at_call 53;refine (KC.out _).mono ?_;rintro e w3 ⟨rfl,hx⟩;(replace hx:=mK hx)))
    go_roundw
    case rel=>exact hnew.out _ _ hx.out (by go_num)
    case measure=>simp [intOf]<;>omega
   ·have hd:¬n≤1048576:=hm
    have hq:Hid (CoQ elE w1 vs (.returned (.int .i64 n)) w2):=⟨by rw [←hsm,Qa hm],hEr⟩
    clear hsm hEr;go_wp2_with fail;go_ret;exact hq.out
  ·have hke:k=vs.length:=by omega
   subst hke;have hq:Hid (CoQ elE w1 vs (.returned (.int .i64 n)) w2):=⟨by rw [←hsm,List.drop_length];rfl,hEr⟩
   clear hsm hEr;go_wp2_with fail;go_ret;exact hq.out
theorem Za (s:Value)(vs:List Value)(w:World)(h:LIn 4 RawF w s vs) :
  Calls Tryz.prog 56 #[s] w (CoQ frE1 w vs):=by
 obtain ⟨a,c,hs0,hc0⟩:=h.slice;have hlen:=h.len;have hI:=mK (fun W (e:Ext w W)=>LIn.ext (w':=W) h (fun _ v=>Jv v e) e);obtain ⟨w1,hw1⟩:=nmE w;rw [←hw1] at hI ⊢;have hs:=mK hs0;subst hs0;clear h hw1;go_enter Tryz.func56,Tryz.ntmps56;go_wp2_with fail;have st:Hid (CoR frE1 w1 vs (.int .i64 vs.length) (.int .i64 0) w1):=⟨vs.length,0,Nat.zero_le _,rfl,rfl,by omega,by omega,by rw [List.drop_zero],xR _⟩
 go_loopw [3,4] (fun t3 t4 wr=>CoR frE1 w1 vs t3 t4 wr) (fun _ t4 _=>vs.length-(intOf t4).toNat)
 case atStart=>exact st.out
 case round=>
  clear st;obtain ⟨n,k,hk,rfl,rfl,hn0,hn1,hsm,hEr⟩:=hrel;obtain ⟨w2,rfl⟩:=nmE (wr:World);by_cases hlt:k<vs.length
  ·have hlt':(k:Int)<(vs.length:Int):=by omega
   by_cases hm:n≤1048576
   ·have hI2:=hI.out w2 hEr
    obtain ⟨b,o,c',e1,hcc,hr⟩:=hI2.get (by decide) hlt;simp only [Value.slice.injEq,true_and] at e1;obtain ⟨rfl,rfl⟩:=e1;obtain ⟨f,ev⟩:=Dq (hI2.raw _ (List.getElem_mem hlt));have g1:=hI2.raw _ (List.getElem_mem hlt);rw [ev] at g1;obtain ⟨z1,z2⟩:=Au g1;rw [ev] at hr;replace hr:w2.rangeAt b (o+k*4) [.bool f.b1,.slice f.a1 f.n1 f.c1,.bool f.b2,.slice f.a2 f.n2 f.c2]:=hr;have KC:=mK (fun W=>Db f.b1 f.b2 f.a1 f.a2 f.n1 f.c1 f.n2 f.c2 W z1 z2);obtain ⟨s1,s2,s3,s4⟩:=Bi f.n1 f.n2 z1 z2;obtain ⟨E,hE⟩:=nmE (Bq f.n1 f.n2:Int);have hE0:0≤E:=by omega
    have hE1:E≤1125899906842624:=by omega
    rw [←hE] at KC
    have hnew:∀ W v4,Ext w2 W→v4=.int .i64 ((k+1:Nat):Int)→CoR frE1 w1 vs (.int .i64 (n+E)) v4 W:=by
     intro W v4 hW hv4;refine ⟨n+E,k+1,by omega,rfl,hv4,by omega,by omega,?_,hEr.trans hW⟩;rw [←hsm,Mn hlt hm];congr 1;rw [ev,hE];rfl
    have hwr:IntKind.i64.wrap (n+E)=n+E:=by rw [IntKind.wrap_i64];omega
    replace hnew:=mK hnew;replace hEr:=mK hEr;replace hr:=mK hr;clear hI2 hsm ev hE g1 s1 s2 s3 s4 z1 z2;have tok:Tok 0:=.mk _
    go_wp2_with (first
     | (replace tok:Tok 1:=nxT 0 tok;refine wpList_load_mid (by rfl) 28 (.tmp 20) rfl b (o+k*4) rfl [.bool f.b1,.slice f.a1 f.n1 f.c1,.bool f.b2,.slice f.a2 f.n2 f.c2] _ hr.out Tryz.underlying28 rfl (by kernel_rfl) ?_)
     | (replace tok:Tok 2:=nxT 1 tok;go_at_call 17;refine (KC.out _).mono ?_;rintro e w3 ⟨rfl,hx⟩;(replace hx:=mK hx)))
    go_roundw
    case rel=>exact hnew.out _ _ hx.out (by go_num)
    case measure=>simp [intOf]<;>omega
   ·have hd:¬n≤1048576:=hm
    have hq:Hid (CoQ frE1 w1 vs (.returned (.int .i64 n)) w2):=⟨by rw [←hsm,Qa hm],hEr⟩
    clear hsm hEr;go_wp2_with fail;go_ret;exact hq.out
  ·have hke:k=vs.length:=by omega
   subst hke;have hq:Hid (CoQ frE1 w1 vs (.returned (.int .i64 n)) w2):=⟨by rw [←hsm,List.drop_length];rfl,hEr⟩
   clear hsm hEr;go_wp2_with fail;go_ret;exact hq.out
theorem Xx (s:Value)(vs:List Value)(w:World)(h:LIn 11 RawQ w s vs) :
  Calls Tryz.prog 57 #[s] w (CoQ ptE w vs):=by
 obtain ⟨a,c,hs0,hc0⟩:=h.slice;have hlen:=h.len;have hI:=mK (fun W (e:Ext w W)=>LIn.ext (w':=W) h (fun _ v=>RawQ.ext v e) e);obtain ⟨w1,hw1⟩:=nmE w;rw [←hw1] at hI ⊢;have hs:=mK hs0;subst hs0;clear h hw1;go_enter Tryz.func57,Tryz.ntmps57;go_wp2_with fail;have st:Hid (CoR ptE w1 vs (.int .i64 vs.length) (.int .i64 0) w1):=⟨vs.length,0,Nat.zero_le _,rfl,rfl,by omega,by omega,by rw [List.drop_zero],xR _⟩
 go_loopw [3,4] (fun t3 t4 wr=>CoR ptE w1 vs t3 t4 wr) (fun _ t4 _=>vs.length-(intOf t4).toNat)
 case atStart=>exact st.out
 case round=>
  clear st;obtain ⟨n,k,hk,rfl,rfl,hn0,hn1,hsm,hEr⟩:=hrel;obtain ⟨w2,rfl⟩:=nmE (wr:World);by_cases hlt:k<vs.length
  ·have hlt':(k:Int)<(vs.length:Int):=by omega
   by_cases hm:n≤1048576
   ·have hI2:=hI.out w2 hEr
    obtain ⟨b,o,c',e1,hcc,hr⟩:=hI2.get (by decide) hlt;simp only [Value.slice.injEq,true_and] at e1;obtain ⟨rfl,rfl⟩:=e1;obtain ⟨nm,kd,co,p,q,ev,z0,z1,z2,z3,z4⟩:=RawPart.lens (hI2.raw _ (List.getElem_mem hlt));rw [ev] at hr;replace hr:w2.rangeAt b (o+k*11) [.string nm,.int .u8 kd,.bool p.b1,.slice p.a1 p.n1 p.c1,.bool p.b2,.slice p.a2 p.n2 p.c2,.bool q.b1,.slice q.a1 q.n1 q.c1,.bool q.b2,.slice q.a2 q.n2 q.c2,.int .i64 co]:=hr;have hr1:w2.rangeAt b (o+k*11+1) [.int .u8 kd,.bool p.b1,.slice p.a1 p.n1 p.c1,.bool p.b2,.slice p.a2 p.n2 p.c2,.bool q.b1,.slice q.a1 q.n1 q.c1,.bool q.b2,.slice q.a2 q.n2 q.c2]:=Re hr 1 9;have c0:∀ W,Ext w2 W→W.cell? ⟨b,o+k*11,none⟩=some (.string nm):=fun W e=>e.cell (hr 0 _ rfl);have HR:=mK (fun W (e:Ext w2 W)=>Cv hr1 e);have KC:=mK (fun W=>Ie kd p.b1 p.a1 p.n1 p.c1 p.b2 p.a2 p.n2 p.c2 q.b1 q.a1 q.n1 q.c1 q.b2 q.a2 q.n2 q.c2 W z1 z2 z3 z4);obtain ⟨s1,s2,s3,s4⟩:=Bi p.n1 p.n2 z1 z2;obtain ⟨t1,t2,t3,t4⟩:=Bi q.n1 q.n2 z3 z4;obtain ⟨E,hE⟩:=nmE (Dz p.n1 p.n2 q.n1 q.n2:Int);have hE0:0≤E:=by rw [hE];unfold Dz;omega
    have hE1:E≤1125899906842624:=by rw [hE];unfold Dz;omega
    rw [←hE] at KC;obtain ⟨m,hmn⟩:=nmE (nm.size:Int);have hm0:0≤m:=by omega
    have hm1:m≤140737488355328:=by omega
    have hnew:∀ W v4,Ext w2 W→v4=.int .i64 ((k+1:Nat):Int)→CoR ptE w1 vs (.int .i64 (n+m+E)) v4 W:=by
     intro W v4 hW hv4;refine ⟨n+m+E,k+1,by omega,rfl,hv4,by omega,by omega,?_,hEr.trans hW⟩;rw [←hsm,Mn hlt hm,Int.add_assoc];congr 2;rw [ev,hE,hmn];rfl
    have hkk:(o:Int)+k*11=((o+k*11:Nat):Int):=by omega
    replace hnew:=mK hnew;replace hEr:=mK hEr;replace hmn:=mK hmn;clear hI2 hr hr1 hsm s1 s2 s3 s4 t1 t2 t3 t4 z0 z1 z2 z3 z4 ev hE hkk;go_wp2_with fail;apply Qy [.val (.int .i64 n),.val (.slice (some ⟨b,o,none⟩) vs.length c),.val (.int .i64 k),.val (.pointer (some ⟨b,o+k*11,none⟩)),.val (.pointer (some ⟨b,o+k*11,none⟩)),.val (.string nm),.val (.int .i64 m),.val (.int .i64 (n+m)),.val (.slice (some ⟨b,o,none⟩) vs.length c),.val (.int .i64 k),.val (.pointer (some ⟨b,o+k*11,none⟩)),.val (.pointer (some ⟨b,o+k*11+1,none⟩)),.val (.agg #[.int .u8 kd,.bool p.b1,.slice p.a1 p.n1 p.c1,.bool p.b2,.slice p.a2 p.n2 p.c2,.bool q.b1,.slice q.a1 q.n1 q.c1,.bool q.b2,.slice q.a2 q.n2 q.c2]),.val (.int .i64 E),.val (.int .i64 (n+m+E))] (by kernel_rfl) (stable_vals _ (stable_vals _ (stable_vals _ (stable_vals _ (stable_vals _ (stable_vals _ (stable_vals _ (stable_vals _ (stable_vals _ (stable_vals _ (stable_vals _ (stable_vals _ (stable_vals _ (stable_vals _ (stable_vals _ trivial)))))))))))))));iterate 6 (refine ⟨fun W hW _=>by go_simp;first|exact ⟨xR _,rfl⟩|exact xR _,?_⟩)
    refine ⟨fun W hW _=>by go_simp;first|exact ⟨xR _,hmn.out.symm⟩|exact ⟨xR _,by rw [hmn.out]⟩|exact xR _,?_⟩;refine ⟨fun W hW _=>by go_simp;exact ⟨xR _,by rw [IntKind.wrap_i64];omega⟩,?_⟩;iterate 4 (refine ⟨fun W hW _=>by go_simp;first|exact ⟨xR _,rfl⟩|exact xR _,?_⟩)
    refine ⟨?lf,?_⟩
    case lf=>
     intro W hW hF;have hr:=HR.out W hW;with_reducible refine Dc ?zhw 72 (.tmp 28) ?zho b (o+k*11+1) ?zhx [.int .u8 kd,.bool p.b1,.slice p.a1 p.n1 p.c1,.bool p.b2,.slice p.a2 p.n2 p.c2,.bool q.b1,.slice q.a1 q.n1 q.c1,.bool q.b2,.slice q.a2 q.n2 q.c2] _ hr Tryz.underlying72 ?zhd ?zhi ?zh
     case zhw=>kernel_rfl
     case zho=>rfl
     case zhx=>kernel_rfl
     case zhd=>rfl
     case zhi=>kernel_rfl
     case zh=>exact ⟨xR _,rfl⟩
    refine ⟨fun W hW _=>?cf,⟨fun W hW _=>by go_simp;exact ⟨xR _,by rw [IntKind.wrap_i64];omega⟩,?_⟩⟩
    case cf=>
     go_simp;refine (KC.out W).mono ?_;rintro e w' ⟨rfl,h1⟩;exact ⟨rfl,h1⟩
    intro W hW _;clear c0 HR KC;replace hW:=mK hW;go_simp;go_wp2_with fail;refine ⟨hnew.out _ _ hW.out (by go_num),by simp [intOf];omega⟩
   ·have hd:¬n≤1048576:=hm
    have hq:Hid (CoQ ptE w1 vs (.returned (.int .i64 n)) w2):=⟨by rw [←hsm,Qa hm],hEr⟩
    clear hsm hEr;go_wp2_with fail;go_ret;exact hq.out
  ·have hke:k=vs.length:=by omega
   subst hke;have hq:Hid (CoQ ptE w1 vs (.returned (.int .i64 n)) w2):=⟨by rw [←hsm,List.drop_length];rfl,hEr⟩
   clear hsm hEr;go_wp2_with fail;go_ret;exact hq.out
theorem Sz (s2 s3:Value)(tg:FV)(N2 N3:Int)(w:World)(h2:∀ W,Ext w W→Calls Tryz.prog 56 #[s2] W fun e w'=>e=.returned (.int .i64 N2)∧Ext W w')(h3:∀ W,Ext w W→Calls Tryz.prog 57 #[s3] W fun e w'=>e=.returned (.int .i64 N3)∧Ext W w')
  (b2:0≤N2∧N2≤4503599627370496) (b3:0≤N3∧N3≤4503599627370496) (hz:tg.n1≤140737488355328∧tg.n2≤140737488355328) :
  Calls Tryz.prog 18 #[.agg (Ct s2 s3 tg)] w fun e w'=>e=.returned (.int .i64 (N2+N3+Bq tg.n1 tg.n2))∧Ext w w':=by
 obtain ⟨wb,hwb⟩:=nmE (w.alloc (.cells (Ct s2 s3 tg) 34));have hE:=aLe1 hwb;have z0:=aL10 hwb;have ZE:=mK (fun W (e:Ext wb W)=>e.blk z0);have c0:=mK (fun W (e:Ext wb W)=>show W.cell? ⟨w.heap.size,0,none⟩=some s2 from Al (e.blk z0) 0);have c1:=mK (fun W (e:Ext wb W)=>show W.cell? ⟨w.heap.size,1,none⟩=some s3 from Al (e.blk z0) 1);have K2:=mK (fun W (e:Ext wb W)=>h2 W (hE.trans e));have K3:=mK (fun W (e:Ext wb W)=>h3 W (hE.trans e));have KC:=mK (fun W (_:Ext wb W)=>Db tg.b1 tg.b2 tg.a1 tg.a2 tg.n1 tg.c1 tg.n2 tg.c2 W hz.1 hz.2);obtain ⟨q1,q2,-,-⟩:=Bi tg.n1 tg.n2 hz.1 hz.2;obtain ⟨b21,b22⟩:=b2;obtain ⟨b31,b32⟩:=b3;generalize Bq tg.n1 tg.n2=C at *;simp only [Ct] at hwb ZE ⊢;replace hE:=mK hE;clear z0 h2 h3 hz;go_enter Tryz.func18,Tryz.ntmps18;go_wp2_with fail;rw [←hwb];clear hwb;apply Ak [.val (.pointer (some ⟨w.heap.size,0,none⟩)),.val (s2),.val (.int .i64 N2),.val (.pointer (some ⟨w.heap.size,1,none⟩)),.val (s3),.val (.int .i64 N3),.val (.int .i64 (N2+N3)),.val (.pointer (some ⟨w.heap.size,2,none⟩)),.val (.agg #[.bool tg.b1,.slice tg.a1 tg.n1 tg.c1,.bool tg.b2,.slice tg.a2 tg.n2 tg.c2]),.val (.int .i64 C),.val (.int .i64 (N2+N3+C))] (by kernel_rfl) (stable_vals _ (stable_vals _ (stable_vals _ (stable_vals _ (stable_vals _ (stable_vals _ (stable_vals _ (stable_vals _ (stable_vals _ (stable_vals _ (stable_vals _ trivial)))))))))));refine ⟨fun W hW _=>by go_simp;first|exact ⟨xR _,rfl⟩|exact xR _,?_⟩;refine ⟨fun W hW _=>by have cc:=c0.out W hW;go_simp;first|exact ⟨xR _,rfl⟩|exact xR _,?_⟩;refine ⟨fun W hW _=>?g2,?_⟩
 case g2=>
  go_simp;refine (K2.out W hW).mono ?_;rintro e w' ⟨rfl,h1⟩;exact ⟨rfl,h1⟩
 refine ⟨fun W hW _=>by go_simp;first|exact ⟨xR _,rfl⟩|exact xR _,?_⟩;refine ⟨fun W hW _=>by have cc:=c1.out W hW;go_simp;first|exact ⟨xR _,rfl⟩|exact xR _,?_⟩;refine ⟨fun W hW _=>?g5,?_⟩
 case g5=>
  go_simp;refine (K3.out W hW).mono ?_;rintro e w' ⟨rfl,h1⟩;exact ⟨rfl,h1⟩
 refine ⟨fun W hW _=>by go_simp;first|exact ⟨xR _,by rw [IntKind.wrap_i64];omega⟩|exact xR _,?_⟩;refine ⟨fun W hW _=>by go_simp;first|exact ⟨xR _,rfl⟩|exact xR _,?_⟩;refine ⟨?l8,?_⟩
 case l8=>
  intro W hW hF;have hr:=ZE.out W hW;with_reducible refine Ah ?zhw 28 (.tmp 10) ?zho w.heap.size 2 ?zhx 34 _ #[.bool tg.b1,.slice tg.a1 tg.n1 tg.c1,.bool tg.b2,.slice tg.a2 tg.n2 tg.c2] (0,0) _ hr ?zhs Tryz.underlying28 ?zhd ?zhi ?zh
  case zhw=>kernel_rfl
  case zho=>rfl
  case zhx=>kernel_rfl
  case zhs=>rfl
  case zhd=>rfl
  case zhi=>kernel_rfl
  case zh=>exact ⟨xR _,rfl⟩
 refine ⟨fun W hW _=>?g9,?_⟩
 case g9=>
  go_simp;refine (KC.out W hW).mono ?_;rintro e w' ⟨rfl,h1⟩;exact ⟨rfl,h1⟩
 refine ⟨fun W hW _=>by go_simp;first|exact ⟨xR _,by rw [IntKind.wrap_i64];omega⟩|exact xR _,?_⟩;intro W hW _;clear ZE c0 c1 K2 K3 KC;replace hE:=mK (hE.out.trans hW);clear hW;go_simp;go_wp2_with fail;go_ret;exact ⟨by trivial,hE.out⟩
theorem Rf (x:PVd)(a4:Option Addr)(n4 c4:Nat)(N1 N2 N3:Int)(w:World)(e4:x.s4=.slice a4 n4 c4)(hn4:n4≤140737488355328)(h1:∀ W,Ext w W→Calls Tryz.prog 15 #[x.s1] W fun e w'=>e=.returned (.int .i64 N1)∧Ext W w')
  (h2:∀ W,Ext w W→Calls Tryz.prog 56 #[x.s2] W fun e w'=>e=.returned (.int .i64 N2)∧Ext W w') (h3:∀ W,Ext w W→Calls Tryz.prog 57 #[x.s3] W fun e w'=>e=.returned (.int .i64 N3)∧Ext W w')
  (b1:0≤N1∧N1≤4503599627370496) (b2:0≤N2∧N2≤4503599627370496) (b3:0≤N3∧N3≤4503599627370496)
  (zy:x.y.n1≤140737488355328∧x.y.n2≤140737488355328) (zu:x.u.n1≤140737488355328∧x.u.n2≤140737488355328) (zm:x.m.n1≤140737488355328∧x.m.n2≤140737488355328) (zt:x.tg.n1≤140737488355328∧x.tg.n2≤140737488355328) (zp:x.pw.n1≤140737488355328∧x.pw.n2≤140737488355328) :
  Calls Tryz.prog 6 #[.agg (pfC x)] w fun e w'=>e=.returned (.int .i64 (N1+(Bq x.y.n1 x.y.n2+Bq x.u.n1 x.u.n2)+Bq x.m.n1 x.m.n2+(N2+N3+Bq x.tg.n1 x.tg.n2)+(n4:Int)+Bq x.pw.n1 x.pw.n2))∧Ext w w':=by
 obtain ⟨wb,hwb⟩:=nmE (w.alloc (.cells (pfC x) 39));have hE:=aLe1 hwb;have z0:=aL10 hwb;have ZE:=mK (fun W (e:Ext wb W)=>e.blk z0);have c1:=mK (fun W (e:Ext wb W)=>show W.cell? ⟨w.heap.size,1,none⟩=some x.s1 from (Em (e.blk z0)).2.1);have c21:=mK (fun W (e:Ext wb W)=>show W.cell? ⟨w.heap.size,21,none⟩=some (.slice a4 n4 c4) by rw [←e4];exact (Em (e.blk z0)).2.2.2.2.2.1);have K1:=mK (fun W (e:Ext wb W)=>h1 W (hE.trans e));have KR:=mK (fun W (_:Ext wb W)=>Xu x.y.b1 x.y.a1 x.y.n1 x.y.c1 x.y.b2 x.y.a2 x.y.n2 x.y.c2 x.u.b1 x.u.a1 x.u.n1 x.u.c1 x.u.b2 x.u.a2 x.u.n2 x.u.c2 W zy.1 zy.2 zu.1 zu.2);have KM:=mK (fun W (_:Ext wb W)=>Db x.m.b1 x.m.b2 x.m.a1 x.m.a2 x.m.n1 x.m.c1 x.m.n2 x.m.c2 W zm.1 zm.2);have KT:=mK (fun W (e:Ext wb W)=>Sz x.s2 x.s3 x.tg N2 N3 W (fun V k=>h2 V ((hE.trans e).trans k)) (fun V k=>h3 V ((hE.trans e).trans k)) b2 b3 zt);have KP:=mK (fun W (_:Ext wb W)=>Db x.pw.b1 x.pw.b2 x.pw.a1 x.pw.a2 x.pw.n1 x.pw.c1 x.pw.n2 x.pw.c2 W zp.1 zp.2);obtain ⟨q1,q2,-,-⟩:=Bi x.y.n1 x.y.n2 zy.1 zy.2;obtain ⟨q3,q4,-,-⟩:=Bi x.u.n1 x.u.n2 zu.1 zu.2;obtain ⟨q5,q6,-,-⟩:=Bi x.m.n1 x.m.n2 zm.1 zm.2;obtain ⟨q7,q8,-,-⟩:=Bi x.tg.n1 x.tg.n2 zt.1 zt.2;obtain ⟨q9,q10,-,-⟩:=Bi x.pw.n1 x.pw.n2 zp.1 zp.2;obtain ⟨b11,b12⟩:=b1;obtain ⟨b21,b22⟩:=b2;obtain ⟨b31,b32⟩:=b3;obtain ⟨CR,hCR⟩:=nmE (Bq x.y.n1 x.y.n2+Bq x.u.n1 x.u.n2:Int);obtain ⟨CM,hCM⟩:=nmE (Bq x.m.n1 x.m.n2:Int);obtain ⟨CT,hCT⟩:=nmE (N2+N3+Bq x.tg.n1 x.tg.n2:Int);obtain ⟨CP,hCP⟩:=nmE (Bq x.pw.n1 x.pw.n2:Int);rw [←hCR] at KR;rw [←hCM] at KM;rw [←hCT] at KT;rw [←hCP] at KP;rw [←hCR,←hCM,←hCT,←hCP];have r1:0≤CR∧CR≤1125899906842624:=by omega
 have r2:0≤CM∧CM≤1125899906842624:=by omega
 have r3:0≤CT∧CT≤11258999068426240:=by omega
 have r4:0≤CP∧CP≤1125899906842624:=by omega
 clear q1 q2 q3 q4 q5 q6 q7 q8 q9 q10 b21 b22 b31 b32 hCR hCM hCT hCP;obtain ⟨kd,s1,y,u,m,st,s2,s3,tg,s4,pw,co⟩:=x;simp only at e4 c1 c21 K1 KR KM KT KP;subst e4;simp only [pfC,Ct] at hwb ZE KT ⊢;replace hE:=mK hE;clear z0 h1 h2 h3 zy zu zm zt zp;go_enter Tryz.func6,Tryz.ntmps6;go_wp2_with fail;rw [←hwb];clear hwb;apply Ak [.val (.pointer (some ⟨w.heap.size,1,none⟩)),.val (s1),.val (.int .i64 N1),.val (.pointer (some ⟨w.heap.size,2,none⟩)),.val (.agg #[.bool y.b1,.slice y.a1 y.n1 y.c1,.bool y.b2,.slice y.a2 y.n2 y.c2,.bool u.b1,.slice u.a1 u.n1 u.c1,.bool u.b2,.slice u.a2 u.n2 u.c2]),.val (.int .i64 CR),.val (.int .i64 (N1+CR)),.val (.pointer (some ⟨w.heap.size,10,none⟩)),.val (.agg #[.bool m.b1,.slice m.a1 m.n1 m.c1,.bool m.b2,.slice m.a2 m.n2 m.c2]),.val (.int .i64 CM),.val (.int .i64 (N1+CR+CM)),.val (.pointer (some ⟨w.heap.size,15,none⟩)),.val (.agg #[s2,s3,.bool tg.b1,.slice tg.a1 tg.n1 tg.c1,.bool tg.b2,.slice tg.a2 tg.n2 tg.c2]),.val (.int .i64 CT),.val (.int .i64 (N1+CR+CM+CT)),.val (.pointer (some ⟨w.heap.size,21,none⟩)),.val (.pointer (some ⟨w.heap.size,21,none⟩)),.val (.slice a4 n4 c4),.val (.int .i64 n4),.val (.int .i64 (N1+CR+CM+CT+(n4:Int))),.val (.pointer (some ⟨w.heap.size,21,none⟩)),.val (.pointer (some ⟨w.heap.size,22,none⟩)),.val (.agg #[.bool pw.b1,.slice pw.a1 pw.n1 pw.c1,.bool pw.b2,.slice pw.a2 pw.n2 pw.c2]),.val (.int .i64 CP),.val (.int .i64 (N1+CR+CM+CT+(n4:Int)+CP))] (by kernel_rfl) (stable_vals _ (stable_vals _ (stable_vals _ (stable_vals _ (stable_vals _ (stable_vals _ (stable_vals _ (stable_vals _ (stable_vals _ (stable_vals _ (stable_vals _ (stable_vals _ (stable_vals _ (stable_vals _ (stable_vals _ (stable_vals _ (stable_vals _ (stable_vals _ (stable_vals _ (stable_vals _ (stable_vals _ (stable_vals _ (stable_vals _ (stable_vals _ (stable_vals _ trivial)))))))))))))))))))))))));refine ⟨fun W hW _=>by go_simp;first|exact ⟨xR _,rfl⟩|exact xR _,?_⟩
 refine ⟨fun W hW _=>by have cc:=c1.out W hW;go_simp;first|exact ⟨xR _,rfl⟩|exact xR _,?_⟩;refine ⟨fun W hW _=>?g2,?_⟩
 case g2=>
  go_simp;refine (K1.out W hW).mono ?_;rintro e w' ⟨rfl,h1⟩;exact ⟨rfl,h1⟩
 refine ⟨fun W hW _=>by go_simp;first|exact ⟨xR _,rfl⟩|exact xR _,?_⟩;refine ⟨?l4,?_⟩
 case l4=>
  intro W hW hF;have hr:=ZE.out W hW;with_reducible refine Ah ?zhw 30 (.tmp 6) ?zho w.heap.size 2 ?zhx 39 _ #[.bool y.b1,.slice y.a1 y.n1 y.c1,.bool y.b2,.slice y.a2 y.n2 y.c2,.bool u.b1,.slice u.a1 u.n1 u.c1,.bool u.b2,.slice u.a2 u.n2 u.c2] (0,0) _ hr ?zhs Tryz.underlying30 ?zhd ?zhi ?zh
  case zhw=>kernel_rfl
  case zho=>rfl
  case zhx=>kernel_rfl
  case zhs=>rfl
  case zhd=>rfl
  case zhi=>kernel_rfl
  case zh=>exact ⟨xR _,rfl⟩
 refine ⟨fun W hW _=>?g5,?_⟩
 case g5=>
  go_simp;refine (KR.out W hW).mono ?_;rintro e w' ⟨rfl,h1⟩;exact ⟨rfl,h1⟩
 refine ⟨fun W hW _=>by go_simp;first|exact ⟨xR _,by rw [IntKind.wrap_i64];omega⟩|exact xR _,?_⟩;refine ⟨fun W hW _=>by go_simp;first|exact ⟨xR _,rfl⟩|exact xR _,?_⟩;refine ⟨?l8,?_⟩
 case l8=>
  intro W hW hF;have hr:=ZE.out W hW;with_reducible refine Ah ?zhw 28 (.tmp 10) ?zho w.heap.size 10 ?zhx 39 _ #[.bool m.b1,.slice m.a1 m.n1 m.c1,.bool m.b2,.slice m.a2 m.n2 m.c2] (0,0) _ hr ?zhs Tryz.underlying28 ?zhd ?zhi ?zh
  case zhw=>kernel_rfl
  case zho=>rfl
  case zhx=>kernel_rfl
  case zhs=>rfl
  case zhd=>rfl
  case zhi=>kernel_rfl
  case zh=>exact ⟨xR _,rfl⟩
 refine ⟨fun W hW _=>?g9,?_⟩
 case g9=>
  go_simp;refine (KM.out W hW).mono ?_;rintro e w' ⟨rfl,h1⟩;exact ⟨rfl,h1⟩
 refine ⟨fun W hW _=>by go_simp;first|exact ⟨xR _,by rw [IntKind.wrap_i64];omega⟩|exact xR _,?_⟩;refine ⟨fun W hW _=>by go_simp;first|exact ⟨xR _,rfl⟩|exact xR _,?_⟩;refine ⟨?l12,?_⟩
 case l12=>
  intro W hW hF;have hr:=ZE.out W hW;with_reducible refine Ah ?zhw 34 (.tmp 14) ?zho w.heap.size 15 ?zhx 39 _ #[s2,s3,.bool tg.b1,.slice tg.a1 tg.n1 tg.c1,.bool tg.b2,.slice tg.a2 tg.n2 tg.c2] (0,0) _ hr ?zhs Tryz.underlying34 ?zhd ?zhi ?zh
  case zhw=>kernel_rfl
  case zho=>rfl
  case zhx=>kernel_rfl
  case zhs=>rfl
  case zhd=>rfl
  case zhi=>kernel_rfl
  case zh=>exact ⟨xR _,rfl⟩
 refine ⟨fun W hW _=>?g13,?_⟩
 case g13=>
  go_simp;refine (KT.out W hW).mono ?_;rintro e w' ⟨rfl,h1⟩;exact ⟨rfl,h1⟩
 refine ⟨fun W hW _=>by go_simp;first|exact ⟨xR _,by rw [IntKind.wrap_i64];omega⟩|exact xR _,?_⟩;refine ⟨fun W hW _=>by go_simp;first|exact ⟨xR _,rfl⟩|exact xR _,?_⟩;refine ⟨fun W hW _=>by go_simp;first|exact ⟨xR _,rfl⟩|exact xR _,?_⟩;refine ⟨fun W hW _=>by have cc:=c21.out W hW;go_simp;first|exact ⟨xR _,rfl⟩|exact xR _,?_⟩;refine ⟨fun W hW _=>by go_simp;first|exact ⟨xR _,rfl⟩|exact xR _,?_⟩;refine ⟨fun W hW _=>by go_simp;first|exact ⟨xR _,by rw [IntKind.wrap_i64];omega⟩|exact xR _,?_⟩;refine ⟨fun W hW _=>by go_simp;first|exact ⟨xR _,rfl⟩|exact xR _,?_⟩;refine ⟨fun W hW _=>by go_simp;first|exact ⟨xR _,rfl⟩|exact xR _,?_⟩;refine ⟨?l22,?_⟩
 case l22=>
  intro W hW hF;have hr:=ZE.out W hW;with_reducible refine Ah ?zhw 28 (.tmp 24) ?zho w.heap.size 22 ?zhx 39 _ #[.bool pw.b1,.slice pw.a1 pw.n1 pw.c1,.bool pw.b2,.slice pw.a2 pw.n2 pw.c2] (0,0) _ hr ?zhs Tryz.underlying28 ?zhd ?zhi ?zh
  case zhw=>kernel_rfl
  case zho=>rfl
  case zhx=>kernel_rfl
  case zhs=>rfl
  case zhd=>rfl
  case zhi=>kernel_rfl
  case zh=>exact ⟨xR _,rfl⟩
 refine ⟨fun W hW _=>?g23,?_⟩
 case g23=>
  go_simp;refine (KP.out W hW).mono ?_;rintro e w' ⟨rfl,h1⟩;exact ⟨rfl,h1⟩
 refine ⟨fun W hW _=>by go_simp;first|exact ⟨xR _,by rw [IntKind.wrap_i64];omega⟩|exact xR _,?_⟩;intro W hW _;clear ZE c1 c21 K1 KR KM KT KP;replace hE:=mK (hE.out.trans hW);clear hW;go_simp;go_wp2_with fail;go_ret;exact ⟨by trivial,hE.out⟩
theorem Zq (g cap:Nat)(x y:Int)(w:World)(h0:0≤x)(h1:x≤288230376151711744)(h2:0≤y)(h3:y≤288230376151711744)(hc:w.cell? ⟨g,0,none⟩=some (.int .i64 x))(hd:w.cell? ⟨g,1,none⟩=some (.int .i64 y)) :
  Calls Tryz.prog 5 #[.slice (some ⟨g,0,none⟩) 2 cap] w fun e w'=>∃ v,e=.returned v∧Ext w w'∧ByV (x+y) v:=by
 have FE:=mK (xR w);by_cases hx:1048576<x
 ·have hb:ByV (x+y) (.bool true):=⟨true,rfl,fun h=>by cases h⟩
  replace hb:=mK hb;go_enter Tryz.func5,Tryz.ntmps5;go_wp2_with fail;refine wp_loop_rounds 3 ?_;rw [rounds_succ];go_wp2_with fail;go_ret;exact ⟨_,rfl,FE.out,hb.out⟩
 ·by_cases hy:1048576<x+y
  ·have hb:ByV (x+y) (.bool true):=⟨true,rfl,fun h=>by cases h⟩
   replace hb:=mK hb;go_enter Tryz.func5,Tryz.ntmps5;go_wp2_with fail;refine wp_loop_rounds 3 ?_;rw [rounds_succ];go_wp2_with fail;rw [rounds_succ];go_wp2_with fail;go_ret;exact ⟨_,rfl,FE.out,hb.out⟩
  ·have hb:ByV (x+y) (.bool false):=⟨false,rfl,fun _=>by omega⟩
   replace hb:=mK hb;go_enter Tryz.func5,Tryz.ntmps5;go_wp2_with fail;refine wp_loop_rounds 3 ?_;rw [rounds_succ];go_wp2_with fail;rw [rounds_succ];go_wp2_with fail;rw [rounds_succ];go_wp2_with fail;go_ret;exact ⟨_,rfl,FE.out,hb.out⟩
theorem Dk {w:World}{f:FV}(h:RawF w (.agg #[.bool f.b1,.slice f.a1 f.n1 f.c1,.bool f.b2,.slice f.a2 f.n2 f.c2]))(hs:Bq f.n1 f.n2≤1048576):∃ o,AnyF w (.agg #[.bool f.b1,.slice f.a1 f.n1 f.c1,.bool f.b2,.slice f.a2 f.n2 f.c2]) o:=by
 obtain ⟨z1,z2⟩:=Au h;obtain ⟨s1,s2,s3,s4⟩:=Bi f.n1 f.n2 z1 z2;obtain ⟨b1,a1,n1,c1,b2,a2,n2,c2,e,k1,k2,k3⟩:=h.opened;simp only [Value.agg.injEq,Array.mk.injEq,List.cons.injEq,and_true,Value.bool.injEq,Value.slice.injEq] at e;obtain ⟨rfl,⟨rfl,rfl,rfl⟩,rfl,rfl,rfl,rfl⟩:=e;exact k3 (by omega) (by omega)
theorem Ab7 {w:World}{v:Value}(h:RawE w v):0≤elE v∧elE v≤2251799813685248:=by
 obtain ⟨kd,p,q,rfl,h1,h2⟩:=h;obtain ⟨z1,z2⟩:=Au h1;obtain ⟨z3,z4⟩:=Au h2;obtain ⟨s1,s2,-,-⟩:=Bi p.n1 p.n2 z1 z2;obtain ⟨t1,t2,-,-⟩:=Bi q.n1 q.n2 z3 z4;show 0≤Dz p.n1 p.n2 q.n1 q.n2∧Dz p.n1 p.n2 q.n1 q.n2≤_
 unfold Dz;omega
theorem Ab4 {w:World}{v:Value}(h:RawF w v):0≤frE1 v∧frE1 v≤2251799813685248:=by
 obtain ⟨f,rfl⟩:=Dq h;obtain ⟨z1,z2⟩:=Au h;obtain ⟨s1,s2,-,-⟩:=Bi f.n1 f.n2 z1 z2;show 0≤Bq f.n1 f.n2∧Bq f.n1 f.n2≤_
 omega
theorem Aa1 {w:World}{v:Value}(h:RawQ w v):0≤ptE v∧ptE v≤2251799813685248:=by
 obtain ⟨nm,kd,co,p,q,rfl,hs,h1,h2⟩:=h;obtain ⟨z1,z2⟩:=Au h1;obtain ⟨z3,z4⟩:=Au h2;obtain ⟨s1,s2,-,-⟩:=Bi p.n1 p.n2 z1 z2;obtain ⟨t1,t2,-,-⟩:=Bi q.n1 q.n2 z3 z4;show 0≤(nm.size:Int)+Dz p.n1 p.n2 q.n1 q.n2∧(nm.size:Int)+Dz p.n1 p.n2 q.n1 q.n2≤_
 unfold Dz;omega
theorem Agd {w:World}{v:Value}(h:RawE w v)(hs:elE v≤1048576):∃ r:RE,EltA w v r:=by
 obtain ⟨kd,p,q,rfl,h1,h2⟩:=h;obtain ⟨z1,z2⟩:=Au h1;obtain ⟨z3,z4⟩:=Au h2;obtain ⟨s1,s2,-,-⟩:=Bi p.n1 p.n2 z1 z2;obtain ⟨t1,t2,-,-⟩:=Bi q.n1 q.n2 z3 z4;replace hs:Dz p.n1 p.n2 q.n1 q.n2≤1048576:=hs;unfold Dz at hs;obtain ⟨o1,k1⟩:=Dk h1 (by omega);obtain ⟨o2,k2⟩:=Dk h2 (by omega);exact ⟨⟨kd,o1,o2⟩,p,q,rfl,k1,k2⟩
theorem Af9 {w:World}{v:Value}(h:RawF w v)(hs:frE1 v≤1048576):∃ o,AnyF w v o:=by
 obtain ⟨f,rfl⟩:=Dq h;exact Dk h hs
theorem Afs {w:World}{v:Value}(h:RawQ w v)(hs:ptE v≤1048576):∃ r:RP,PrtA w v r:=by
 obtain ⟨nm,kd,co,p,q,rfl,hz,h1,h2⟩:=h;obtain ⟨z1,z2⟩:=Au h1;obtain ⟨z3,z4⟩:=Au h2;obtain ⟨s1,s2,-,-⟩:=Bi p.n1 p.n2 z1 z2;obtain ⟨t1,t2,-,-⟩:=Bi q.n1 q.n2 z3 z4;replace hs:(nm.size:Int)+Dz p.n1 p.n2 q.n1 q.n2≤1048576:=hs;unfold Dz at hs;obtain ⟨o1,k1⟩:=Dk h1 (by omega);obtain ⟨o2,k2⟩:=Dk h2 (by omega);exact ⟨⟨nm,kd,o1,o2,co⟩,p,q,rfl,k1,k2,hz⟩
def Ha (x:PVd)(l1 l2 l3 l4:List Value):Int:=
 coF elE l1.length l1+(Bq x.y.n1 x.y.n2+Bq x.u.n1 x.u.n2)+Bq x.m.n1 x.m.n2+(coF frE1 l2.length l2+coF ptE l3.length l3+Bq x.tg.n1 x.tg.n2)+(l4.length:Int)+Bq x.pw.n1 x.pw.n2
theorem Rg {w:World}{x:PVd}{l1 l2 l3 l4:List Value}(h:RawPf w x l1 l2 l3 l4):0≤Ha x l1 l2 l3 l4∧Ha x l1 l2 l3 l4≤288230376151711744 ∧
  (Ha x l1 l2 l3 l4≤1048576→coF elE l1.length l1≤1048576∧coF frE1 l2.length l2≤1048576∧coF ptE l3.length l3≤1048576∧l1.length≤1048576∧l2.length≤1048576∧l3.length≤1048576∧l4.length≤1048576 ∧
   Bq x.y.n1 x.y.n2≤1048576∧Bq x.u.n1 x.u.n2≤1048576∧Bq x.m.n1 x.m.n2≤1048576∧Bq x.tg.n1 x.tg.n2≤1048576∧Bq x.pw.n1 x.pw.n2≤1048576):=by
 have k1:=h.be.len;have k2:=h.sp.len;have k3:=h.pt.len;have k4:=h.pk.len;obtain ⟨q1,q2⟩:=Ks elE l1 l1.length (fun v hv=>Ab7 (h.be.raw v hv)) (by omega) (by omega);obtain ⟨q3,q4⟩:=Ks frE1 l2 l2.length (fun v hv=>Ab4 (h.sp.raw v hv)) (by omega) (by omega);obtain ⟨q5,q6⟩:=Ks ptE l3 l3.length (fun v hv=>Aa1 (h.pt.raw v hv)) (by omega) (by omega);obtain ⟨r1,r2,-,-⟩:=Bi x.y.n1 x.y.n2 (Au h.fy).1 (Au h.fy).2;obtain ⟨r3,r4,-,-⟩:=Bi x.u.n1 x.u.n2 (Au h.fu).1 (Au h.fu).2;obtain ⟨r5,r6,-,-⟩:=Bi x.m.n1 x.m.n2 (Au h.fm).1 (Au h.fm).2;obtain ⟨r7,r8,-,-⟩:=Bi x.tg.n1 x.tg.n2 (Au h.ft).1 (Au h.ft).2;obtain ⟨r9,r10,-,-⟩:=Bi x.pw.n1 x.pw.n2 (Au h.fp).1 (Au h.fp).2;unfold Ha;omega
theorem Xv {w:World}{x:PVd}{l1 l2 l3 l4:List Value}(h:RawPf w x l1 l2 l3 l4)(hs:Ha x l1 l2 l3 l4≤1048576):∃ d:AD,AnyPf w x d∧d.be.length≤1048576∧d.sp.length≤1048576∧d.pt.length≤1048576∧d.pk.length≤1048576:=by
 obtain ⟨s1,s2,s3,s4,s5,s6,s7,s8,s9,s10,s11,s12⟩:=(Rg h).2.2 hs;have k1:=h.be.len;have k2:=h.sp.len;have k3:=h.pt.len;obtain ⟨o1,a1,b1⟩:=Wh (S:=EltA) h.be fun v hv hr=>Agd hr (Hw elE l1 l1.length (fun v hv=>Ab7 (h.be.raw v hv)) (by omega) (by omega) s1 v hv);obtain ⟨o2,a2,b2⟩:=Wh (S:=AnyF) h.sp fun v hv hr=>Af9 hr (Hw frE1 l2 l2.length (fun v hv=>Ab4 (h.sp.raw v hv)) (by omega) (by omega) s2 v hv);obtain ⟨o3,a3,b3⟩:=Wh (S:=PrtA) h.pt fun v hv hr=>Afs hr (Hw ptE l3 l3.length (fun v hv=>Aa1 (h.pt.raw v hv)) (by omega) (by omega) s3 v hv)
 obtain ⟨o4,a4,b4⟩:=Wh (S:=NumA) h.pk fun v hv hr=>by
  obtain ⟨n,e,-,-⟩:=hr;exact ⟨n,e⟩
 obtain ⟨y,hy⟩:=Dk h.fy s8;obtain ⟨u,hu⟩:=Dk h.fu s9;obtain ⟨m,hm⟩:=Dk h.fm s10;obtain ⟨t,ht⟩:=Dk h.ft s11;obtain ⟨p,hp⟩:=Dk h.fp s12;have g1:o1.length≤1048576:=by rw [←a1,List.length_map] at s4;exact s4
 have g2:o2.length≤1048576:=by rw [←a2,List.length_map] at s5;exact s5
 have g3:o3.length≤1048576:=by rw [←a3,List.length_map] at s6;exact s6
 have g4:o4.length≤1048576:=by rw [←a4,List.length_map] at s7;exact s7
 exact ⟨⟨o1.map (·.1),o2.map (·.1),o3.map (·.1),o4.map (·.1),y,u,m,t,p⟩,⟨⟨o1,rfl,b1⟩,⟨o2,rfl,b2⟩,⟨o3,rfl,b3⟩,⟨o4,rfl,b4⟩,hy,hu,hm,ht,hp,h.co.2⟩,by simpa using g1,by simpa using g2,by simpa using g3,by simpa using g4⟩
theorem Tl {w:World}{x:PVd}{l1 l2 l3 l4:List Value}(h:RawPf w x l1 l2 l3 l4)(W:World)(e:Ext w W) :
  Calls Tryz.prog 6 #[.agg (pfC x)] W fun r w'=>r=.returned (.int .i64 (Ha x l1 l2 l3 l4))∧Ext W w':=by
 obtain ⟨a,c,e4,-⟩:=h.pk.slice;have k1:=h.be.len;have k2:=h.sp.len;have k3:=h.pt.len;obtain ⟨q1,q2⟩:=Ks elE l1 l1.length (fun v hv=>Ab7 (h.be.raw v hv)) (by omega) (by omega);obtain ⟨q3,q4⟩:=Ks frE1 l2 l2.length (fun v hv=>Ab4 (h.sp.raw v hv)) (by omega) (by omega);obtain ⟨q5,q6⟩:=Ks ptE l3 l3.length (fun v hv=>Aa1 (h.pt.raw v hv)) (by omega) (by omega)
 exact Rf x a l4.length c _ _ _ W e4 h.pk.len (fun V k=>Zf _ l1 V (h.be.ext (fun _ v=>v.ext (e.trans k)) (e.trans k))) (fun V k=>Za _ l2 V (h.sp.ext (fun _ v=>Jv v (e.trans k)) (e.trans k))) (fun V k=>Xx _ l3 V (h.pt.ext (fun _ v=>v.ext (e.trans k)) (e.trans k)))
  ⟨by omega,q2⟩ ⟨by omega,q4⟩ ⟨by omega,q6⟩ (Au h.fy) (Au h.fu) (Au h.fm) (Au h.ft) (Au h.fp)
theorem IntR.anyR {w:World}{b:Bool}{a:Option Addr}{n c:Nat}{X:Int}(h:IntR w (.agg #[.bool b,.slice a n c]) X):b=decide (X<0)∧n=(lim X.natAbs).length∧AnyR w (.agg #[.bool b,.slice a (lim X.natAbs).length c]) b (lim X.natAbs):=by
 obtain ⟨s,e,a',c',rfl,k1,k2⟩:=h;simp only [Value.agg.injEq,Array.mk.injEq,List.cons.injEq,and_true,Value.bool.injEq,Value.slice.injEq] at e;obtain ⟨rfl,rfl,rfl,rfl⟩:=e;exact ⟨rfl,rfl,_,_,rfl,By _,k1,k2⟩
theorem FracR.rawL {w:World}{b1:Bool}{a1:Option Addr}{n1 c1:Nat}{b2:Bool}{a2:Option Addr}{n2 c2:Nat}{q:Rat}(h:FracR w (.agg #[.bool b1,.slice a1 n1 c1,.bool b2,.slice a2 n2 c2]) q)(hq:nf q≤2048) :
  b1=decide (q.num<0)∧n1=(lim q.num.natAbs).length∧b2=decide ((q.den:Int)<0)∧n2=(lim (q.den:Int).natAbs).length∧RawL w b1 a1 (lim q.num.natAbs) c1 b2 a2 (lim (q.den:Int).natAbs) c2:=by
 obtain ⟨b1',a1',n1',c1',b2',a2',n2',c2',e,k1,k2⟩:=h;simp only [Value.agg.injEq,Array.mk.injEq,List.cons.injEq,and_true,Value.bool.injEq,Value.slice.injEq] at e;obtain ⟨rfl,⟨rfl,rfl,rfl⟩,rfl,rfl,rfl,rfl⟩:=e;obtain ⟨e1,e2,r1⟩:=k1.anyR;obtain ⟨e3,e4,r2⟩:=k2.anyR;have m1:(lim q.num.natAbs).length≤2048:=nT (Nat.le_max_left _ _) hq;have m2:(lim (q.den:Int).natAbs).length≤2048:=nT (Nat.le_max_right _ _) hq;exact ⟨e1,e2,e3,e4,nT m1 (by decide),nT m2 (by decide),r1,r2⟩
theorem Mv (v v':Value)(d:PD)(w:World)(h:Ae9 w v d)(h':Ae9 w v' d)(hp:nf d.p≤2048)(hq:nf d.q≤2048) :
  Calls Tryz.prog 146 #[v,v'] w fun e w'=>e=.returned (.bool true)∧Ext w w':=by
 obtain ⟨b1,a1,n1,c1,b2,a2,n2,c2,b3,a3,n3,c3,b4,a4,n4,c4,rfl,h1,h2⟩:=h;obtain ⟨b1',a1',n1',c1',b2',a2',n2',c2',b3',a3',n3',c3',b4',a4',n4',c4',rfl,h1',h2'⟩:=h';obtain ⟨rfl,rfl,rfl,rfl,r1⟩:=h1.rawL hp;obtain ⟨rfl,rfl,rfl,rfl,r2⟩:=h2.rawL hq;obtain ⟨rfl,rfl,rfl,rfl,r1'⟩:=h1'.rawL hp;obtain ⟨rfl,rfl,rfl,rfl,r2'⟩:=h2'.rawL hq;refine (Th d.nm d.nm d.kd d.kd d.co d.co _ a1 _ c1 _ a2 _ c2 _ a3 _ c3 _ a4 _ c4 _ a1' _ c1' _ a2' _ c2' _ a3' _ c3' _ a4' _ c4' w r1 r2 r1' r2').mono ?_;rintro e w' ⟨rfl,hx⟩;refine ⟨?_,hx⟩;simp [Jk]
end Go.Proofs.YtlknpnommcohkaaGreatDoor
