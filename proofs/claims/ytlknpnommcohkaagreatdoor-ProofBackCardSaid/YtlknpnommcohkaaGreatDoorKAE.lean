/-
  ratio: Check. ratio: Checks, Long, Answer. frac: answered, Make, Of. frac: always, do, Mul, Sub. frac: Mul, Sub. frac: Make, Of; the law's whole. period: Chebyshev, where it reckons. ray: Check. period: Power: printed by tools/gen_pow.py. law01: SameInt. law14: lives. law01: IntSize, FracSize, Lowest, FracCost. law01: MatrixCost, RayCost, Beyond, Whole, Trips: printed by tools/gen_cost.py. PeriodPell, walked: printed by tools/gen_pell.py. What comes in, opened: a fraction, a matrix, a ray as data. What comes in, opened: an element, a part, an op as data: printed by tools/gen_opens.py. Lists of values of n cells each, in memory: read, and of one's own. As Free (an operation of the front may look at a slot that the tail writes). A load of a part of a row, by a law: no program. ratio.Copy once more, its two rows apart; a part in memory of its own (catalog.copied): printed by tools/gen_copy.py. A store into a part of a row, by a law; a load of a part where blocks lie apart (Aloof): no program. Parts as data; a part in rows of its own: catalog.copied: printed by tools/gen_copied.py. The Book: marks; entries. law01: SameFrac, SameElement, SamePart of whatever limbs: printed by tools/gen_samel.py.
-/
import Derived.Test.YtlknpnommcohkaaGreatDoorKAD
import Derived.Test.YtlknpnommcohkaaGreatDoorKAA
import Derived.Deep.LoopGhost
import Derived.Test.YtlknpnommcohkaaGreatDoorKAC
import Derived.ProofKit
import Derived.OpenShut
import Derived.Lib.SmallJoins
import Derived.Carry
import Derived.Deep.Slices
import Derived.SizedLaws
import Derived.Deep.MidRow
import Derived.Test.YtlknpnommcohkaaGreatDoorKAB
import Derived.Laws.AppendOwnNone
import Derived.Test.YtlknpnommcohkaaGreatDoorProg
set_option maxHeartbeats 6400000
namespace Go.Proofs.YtlknpnommcohkaaGreatDoor
set_option maxRecDepth 100000
open Go Go.RowKit Go.Proofs
def AnyL (w:World)(v:Value)(b1:Bool)(l1:List Nat)(b2:Bool)(l2:List Nat):Prop:=
 ∃ a1 c1 a2 c2,v=.agg #[.bool b1,.slice a1 l1.length c1,.bool b2,.slice a2 l2.length c2]∧l1.length≤4294967296∧l2.length≤4294967296∧AnyR w (.agg #[.bool b1,.slice a1 l1.length c1]) b1 l1∧AnyR w (.agg #[.bool b2,.slice a2 l2.length c2]) b2 l2
def okF (b1:Bool)(l1:List Nat)(b2:Bool)(l2:List Nat):Bool:=
 Ed b1 l1&&Ed b2 l2&&decide (0<sg b2 (val l2))&&decide (Int.gcd (sg b1 (val l1)) (sg b2 (val l2))=1)
def ratF (b1:Bool)(l1:List Nat)(b2:Bool)(l2:List Nat):Option Rat:=
 if okF b1 l1 b2 l2 then some (Rat.divInt (sg b1 (val l1)) (sg b2 (val l2))) else none
def AnyF (w:World)(v:Value)(o:Option Rat):Prop:=∃ b1 l1 b2 l2,AnyL w v b1 l1 b2 l2∧o=ratF b1 l1 b2 l2
theorem AnyF.ext {w w':World}{v:Value}{o:Option Rat}(h:AnyF w v o)(e:Ext w w'):AnyF w' v o:=by
 obtain ⟨b1,l1,b2,l2,⟨a1,c1,a2,c2,h1,h2,h3,h4,h5⟩,h6⟩:=h;exact ⟨b1,l1,b2,l2,⟨a1,c1,a2,c2,h1,h2,h3,h4.ext e,h5.ext e⟩,h6⟩
theorem AnyF.shape {w:World}{v:Value}{o:Option Rat}(h:AnyF w v o):∃ b1 a1 n1 c1 b2 a2 n2 c2,v=.agg #[.bool b1,.slice a1 n1 c1,.bool b2,.slice a2 n2 c2]:=by
 obtain ⟨b1,l1,b2,l2,⟨a1,c1,a2,c2,h1,h2,h3,h4,h5⟩,h6⟩:=h;exact ⟨_,_,_,_,_,_,_,_,h1⟩
theorem Yt {n d:Int}(hd:0<d)(hg:Int.gcd n d=1):(Rat.divInt n d).num=n∧((Rat.divInt n d).den:Int)=d:=by
 rw [Pk,Pm n d (by omega),hg];simp;omega
theorem AnyF.frac {w:World}{v:Value}{x:Rat}(h:AnyF w v (some x)):FracR w v x∧nf x≤2048:=by
 obtain ⟨b1,l1,b2,l2,⟨a1,c1,a2,c2,rfl,h2,h3,h4,h5⟩,h6⟩:=h;unfold ratF at h6;split at h6
 ·rename_i ho
  unfold okF at ho;simp only [Bool.and_eq_true,decide_eq_true_eq] at ho;obtain ⟨⟨⟨o1,o2⟩,o3⟩,o4⟩:=ho;simp only [Option.some.injEq] at h6;obtain ⟨e1,e2⟩:=Yt o3 o4;rw [←h6] at e1 e2;obtain ⟨i1,i2⟩:=Lg h4 o1;obtain ⟨j1,j2⟩:=Lg h5 o2;refine ⟨⟨_,_,_,_,_,_,_,_,rfl,by rw [e1];exact i1,by rw [e2];exact j1⟩,?_⟩;unfold nf;rw [e1,e2];exact Nat.max_le.2 ⟨i2,j2⟩
 ·cases h6
theorem Aar (X:Int):sg (decide (X<0)) X.natAbs=X:=by
 unfold sg;split
 ·rename_i h
  simp at h;omega
 ·rename_i h
  simp at h;omega
theorem Ji (X:Int):Ed (decide (X<0)) (lim X.natAbs)=decide (nl X≤2048):=by
 by_cases h:nl X≤2048
 ·rw [Mj h,decide_eq_true h]
 ·have:Ed (decide (X<0)) (lim X.natAbs)=false:=by
   unfold Ed nl at *;simp [h]
  rw [this,decide_eq_false h]
theorem FracR.any {w:World}{v:Value}{x:Rat}(h:FracR w v x)(hn:nf x≤4294967296):AnyF w v (if nf x≤2048 then some x else none):=by
 obtain ⟨b1,a1,n1,c1,b2,a2,n2,c2,rfl,h1,h2⟩:=h;obtain ⟨s1,e1,x1,y1,rfl,k1,r1⟩:=h1;obtain ⟨s2,e2,x2,y2,rfl,k2,r2⟩:=h2;simp only [Value.agg.injEq,Array.mk.injEq,List.cons.injEq,and_true,Value.bool.injEq,Value.slice.injEq] at e1 e2;obtain ⟨rfl,rfl,rfl,rfl⟩:=e1;obtain ⟨rfl,rfl,rfl,rfl⟩:=e2;have m1:nl x.num≤nf x:=Nat.le_max_left _ _;have m2:nl (x.den:Int)≤nf x:=Nat.le_max_right _ _;refine ⟨_,lim x.num.natAbs,_,lim (x.den:Int).natAbs,⟨_,_,_,_,rfl,by unfold nl at *;omega,by unfold nl at *;omega,⟨_,_,rfl,By _,k1,r1⟩,⟨_,_,rfl,By _,k2,r2⟩⟩,?_⟩;unfold ratF okF;rw [Bn,Bn,Aar,Aar,Ji,Ji];have hd:decide (0<(x.den:Int))=true:=by simp;exact Nat.pos_of_ne_zero x.den_nz
 have hg:Int.gcd x.num x.den=1:=x.reduced;rw [hd,hg,Rat.num_divInt_den]
 have:(decide (nl x.num≤2048)&&decide (nl (x.den:Int)≤2048)&&true&&decide (1=1))=decide (nf x≤2048):=by
  unfold nf;by_cases u1:nl x.num≤2048<;>by_cases u2:nl (x.den:Int)≤2048<;>simp [u1,u2,Nat.max_le]
 rw [this];by_cases u:nf x≤2048<;>simp [u]
theorem Bt {w:World}{g T:Nat}{u1 u2 u3 u4:Value}(h:w.heap[g]? = some (.cells #[u1,u2,u3,u4] T (0,0))):w.cell? ⟨g,0,none⟩=some u1∧w.cell? ⟨g,1,none⟩=some u2∧w.cell? ⟨g,2,none⟩=some u3∧w.cell? ⟨g,3,none⟩=some u4:=by
 refine ⟨?_,?_,?_,?_⟩<;>simp [World.cell?,h]
theorem Gn (v:Value)(o:Option Rat)(w:World)(h:AnyF w v o) :
  Calls Tryz.prog 115 #[v] w fun e w'=>e=.returned (.int .i64 (if o.isSome then 0 else 1))∧Ext w w':=by
 obtain ⟨b1,l1,b2,l2,⟨a1,c1,a2,c2,rfl,h2,h3,h4,h5⟩,rfl⟩:=h;have k1:=mK (fun w h=>Ld (.agg #[.bool b1,.slice a1 l1.length c1]) b1 l1 w h2 h);have k2:=mK (fun w h=>Ld (.agg #[.bool b2,.slice a2 l2.length c2]) b2 l2 w h3 h);replace h4:=mK h4;replace h5:=mK h5;by_cases g1:Ed b1 l1=true
 ·rw [if_pos g1] at k1
  by_cases g2:Ed b2 l2=true
  ·rw [if_pos g2] at k2
   obtain ⟨i1,n1⟩:=Lg h4.out g1;obtain ⟨i2,n2⟩:=Lg h5.out g2;have hn1:nl (sg b1 (val l1))≤1073741824:=nT n1 (by decide);have hn2:nl (sg b2 (val l2))≤1073741824:=nT n2 (by decide)
   have hr:(ratF b1 l1 b2 l2).isSome=decide (0<sg b2 (val l2)∧Int.gcd (sg b1 (val l1)) (sg b2 (val l2))=1):=by
    unfold ratF okF;rw [g1,g2];by_cases u1:0<sg b2 (val l2)<;>by_cases u2:Int.gcd (sg b1 (val l1)) (sg b2 (val l2))=1<;>simp [u1,u2]
   rw [hr];clear hr g1 g2 h2 h3 n1 n2;generalize sg b1 (val l1)=X at *;generalize sg b2 (val l2)=Y at *;have hsg:=mK (fun w h=>Fz (.agg #[.bool b2,.slice a2 l2.length c2]) Y w h hn2);have hcm:=mK (fun w h h'=>Mm (.agg #[.bool b1,.slice a1 l1.length c1]) (.agg #[.bool b2,.slice a2 l2.length c2]) X Y w hn1 hn2 h h');replace i1:=mK i1;replace i2:=mK i2;by_cases hy:0<Y
   ·have hs:Y.sign=1:=Int.sign_eq_one_of_pos hy
    rw [hs] at hsg
    have hgl:nl (Int.gcd X Y:Nat)≤1073741824:=by
     refine nT (Cq ?_) hn2;rw [Int.natAbs_natCast];exact Nat.le_of_dvd (by omega) (by simpa using (Int.natAbs_dvd_natAbs.2 (Int.gcd_dvd_right X Y)))
    have hof:=mK (fun w=>of_c 1 w (by omega) (by omega));by_cases hg:Int.gcd X Y=1
    ·rw [if_pos (decide_eq_true ⟨hy,hg⟩)]
     have hcp:=mK (fun v1 v2 w h1 h2=>Kt v1 v2 (Int.gcd X Y:Nat) 1 w hgl Ka h1 h2);rw [show (((Int.gcd X Y:Nat):Int)-1).sign=0 by rw [hg];rfl] at hcp;clear hs hgl hn1 hn2;generalize Int.gcd X Y=G at *;replace hy:=mK hy;replace hg:=mK hg;go_enter Tryz.func115,Tryz.ntmps115;go_wp2_with fail;refine (k1.out _ (h4.out.ext ((xR w).al _))).mono ?_;rintro e w1 ⟨rfl,hE1⟩;have hb:=Bt (hE1.blk (heap_alloc_new w _));have E1:=((xR w).al _).trans hE1;replace k2:=mK (k2.out w1 (h5.out.ext E1));replace hb:=hb;have hE1':=mK hE1;replace E1:=mK E1;clear hE1 k1;go_wp2_with fail;refine k2.out.mono ?_;rintro e w2 ⟨rfl,hE2⟩;have hE12:=hE1'.out.trans hE2;replace hb:=Bt (hE12.blk (heap_alloc_new w _));replace E1:=mK (E1.out.trans hE2);replace hE12:=mK hE12;clear hE2 k2 hE1';go_wp2_with fail;refine (hsg.out w2 (i2.out.ext E1.out)).mono ?_;rintro e w3 ⟨rfl,hE3⟩;replace hE12:=mK (hE12.out.trans hE3);replace hb:=Bt (hE12.out.blk (heap_alloc_new w _));replace E1:=mK (E1.out.trans hE3);clear hE3;go_wp2_with fail;refine (hcm.out w3 (i1.out.ext E1.out) (i2.out.ext E1.out)).mono ?_;rintro e w4 ⟨vg,rfl,hE4,hgv⟩;replace E1:=mK (E1.out.trans hE4);replace hgv:=mK hgv;clear hE4 hb hE12;go_wp2_with fail;refine (hof.out w4).mono ?_;rintro e w5 ⟨vo,rfl,hE5,hov⟩;replace E1:=mK (E1.out.trans hE5);replace hgv:=mK (hgv.out.r.ext hE5);replace hov:=mK hov.r;clear hE5;go_wp2_with fail;refine (hcp.out _ _ w5 hgv.out hov.out).mono ?_;rintro e w6 ⟨rfl,hE6⟩;replace E1:=mK (E1.out.trans hE6);clear hE6;go_wp2_with fail;go_ret;exact ⟨rfl,E1.out⟩
    ·rw [if_neg (fun h=>hg (of_decide_eq_true h).2)]
     obtain ⟨S,hS⟩:=nmE ((((Int.gcd X Y:Nat):Int)-1).sign)
     have hS0:(S==0)=false:=by
      rw [hS,beq_eq_false_iff_ne];intro h;have:=Int.sign_eq_zero_iff_zero.1 h;omega
     have hcp:=mK (fun v1 v2 w h1 h2=>Kt v1 v2 (Int.gcd X Y:Nat) 1 w hgl Ka h1 h2);rw [←hS] at hcp;replace hS:=mK hS;clear hs hgl hn1 hn2;generalize Int.gcd X Y=G at *;replace hy:=mK hy;replace hg:=mK hg;go_enter Tryz.func115,Tryz.ntmps115;go_wp2_with fail;refine (k1.out _ (h4.out.ext ((xR w).al _))).mono ?_;rintro e w1 ⟨rfl,hE1⟩;have hb:=Bt (hE1.blk (heap_alloc_new w _));have E1:=((xR w).al _).trans hE1;replace k2:=mK (k2.out w1 (h5.out.ext E1));replace hb:=hb;have hE1':=mK hE1;replace E1:=mK E1;clear hE1 k1;go_wp2_with fail;refine k2.out.mono ?_;rintro e w2 ⟨rfl,hE2⟩;have hE12:=hE1'.out.trans hE2;replace hb:=Bt (hE12.blk (heap_alloc_new w _));replace E1:=mK (E1.out.trans hE2);replace hE12:=mK hE12;clear hE2 k2 hE1';go_wp2_with fail;refine (hsg.out w2 (i2.out.ext E1.out)).mono ?_;rintro e w3 ⟨rfl,hE3⟩;replace hE12:=mK (hE12.out.trans hE3);replace hb:=Bt (hE12.out.blk (heap_alloc_new w _));replace E1:=mK (E1.out.trans hE3);clear hE3;go_wp2_with fail;refine (hcm.out w3 (i1.out.ext E1.out) (i2.out.ext E1.out)).mono ?_;rintro e w4 ⟨vg,rfl,hE4,hgv⟩;replace E1:=mK (E1.out.trans hE4);replace hgv:=mK hgv;clear hE4 hb hE12;go_wp2_with fail;refine (hof.out w4).mono ?_;rintro e w5 ⟨vo,rfl,hE5,hov⟩;replace E1:=mK (E1.out.trans hE5);replace hgv:=mK (hgv.out.r.ext hE5);replace hov:=mK hov.r;clear hE5;go_wp2_with fail;refine (hcp.out _ _ w5 hgv.out hov.out).mono ?_;rintro e w6 ⟨rfl,hE6⟩;replace E1:=mK (E1.out.trans hE6);clear hE6;go_wp2_with fail;go_ret;exact ⟨rfl,E1.out⟩
   ·rw [if_neg (fun h=>hy (of_decide_eq_true h).1)]
    have hs:Y.sign≤0:=by
     rcases Int.lt_trichotomy Y 0 with h|h|h
     ·rw [Int.sign_eq_neg_one_of_neg h];decide
     ·rw [h];decide
     ·exact absurd h hy
    generalize Y.sign=S at *;replace hy:=mK hy;go_enter Tryz.func115,Tryz.ntmps115;go_wp2_with fail;refine (k1.out _ (h4.out.ext ((xR w).al _))).mono ?_;rintro e w1 ⟨rfl,hE1⟩;have hb:=Bt (hE1.blk (heap_alloc_new w _));have E1:=((xR w).al _).trans hE1;replace k2:=mK (k2.out w1 (h5.out.ext E1));replace hb:=hb;have hE1':=mK hE1;replace E1:=mK E1;clear hE1 k1;go_wp2_with fail;refine k2.out.mono ?_;rintro e w2 ⟨rfl,hE2⟩;have hE12:=hE1'.out.trans hE2;replace hb:=Bt (hE12.blk (heap_alloc_new w _));replace E1:=mK (E1.out.trans hE2);replace hE12:=mK hE12;clear hE2 k2 hE1';go_wp2_with fail;refine (hsg.out w2 (i2.out.ext E1.out)).mono ?_;rintro e w3 ⟨rfl,hE3⟩;replace E1:=mK (E1.out.trans hE3);clear hE3;go_wp2_with fail;go_ret;exact ⟨rfl,E1.out⟩
  ·rw [if_neg g2] at k2
   have ho:ratF b1 l1 b2 l2=none:=by unfold ratF okF;simp [g2]
   rw [ho];clear ho g1 g2 h2 h3;simp only [Option.isSome_none];rw [if_neg (by decide)];go_enter Tryz.func115,Tryz.ntmps115;go_wp2_with fail;refine (k1.out _ (h4.out.ext ((xR w).al _))).mono ?_;rintro e w1 ⟨rfl,hE1⟩;have hb:=Bt (hE1.blk (heap_alloc_new w _));have E1:=((xR w).al _).trans hE1;replace k2:=mK (k2.out w1 (h5.out.ext E1));replace hb:=hb;have hE1':=mK hE1;replace E1:=mK E1;clear hE1 k1;go_wp2_with fail;refine k2.out.mono ?_;rintro e w2 ⟨rfl,hE2⟩;have hE12:=hE1'.out.trans hE2;replace hb:=Bt (hE12.blk (heap_alloc_new w _));replace E1:=mK (E1.out.trans hE2);replace hE12:=mK hE12;clear hE2 k2 hE1';go_wp2_with fail;go_ret;exact ⟨rfl,E1.out⟩
 ·rw [if_neg g1] at k1
  have ho:ratF b1 l1 b2 l2=none:=by unfold ratF okF;simp [g1]
  rw [ho];clear ho g1 h2 h3;simp only [Option.isSome_none];rw [if_neg (by decide)];go_enter Tryz.func115,Tryz.ntmps115;go_wp2_with fail;refine (k1.out _ (h4.out.ext ((xR w).al _))).mono ?_;rintro e w1 ⟨rfl,hE1⟩;replace hE1:=mK (((xR w).al _).trans hE1);go_wp2_with fail;go_ret;exact ⟨rfl,hE1.out⟩
def LF (w:World)(g:Nat)(os:List (Option Rat)):Prop:=
 ∀ k,k<os.length→∃ b1 a1 n1 c1 b2 a2 n2 c2,w.cell? ⟨g,k*4,none⟩=some (.bool b1)∧w.cell? ⟨g,k*4+1,none⟩=some (.slice a1 n1 c1)∧w.cell? ⟨g,k*4+2,none⟩=some (.bool b2)∧w.cell? ⟨g,k*4+3,none⟩=some (.slice a2 n2 c2) ∧
  AnyF w (.agg #[.bool b1,.slice a1 n1 c1,.bool b2,.slice a2 n2 c2]) (os.getD k none)
theorem LF.ext {w w':World}{g:Nat}{os:List (Option Rat)}(h:LF w g os)(e:Ext w w'):LF w' g os:=by
 intro k hk;obtain ⟨b1,a1,n1,c1,b2,a2,n2,c2,h1,h2,h3,h4,h5⟩:=h k hk;exact ⟨b1,a1,n1,c1,b2,a2,n2,c2,e.cell h1,e.cell h2,e.cell h3,e.cell h4,h5.ext e⟩
theorem Hj (g cap:Nat)(os:List (Option Rat))(w:World)(hn:os.length≤4294967296)(h:LF w g os) :
  Calls Tryz.prog 71 #[.slice (some ⟨g,0,none⟩) os.length cap] w fun e w'=>e=.returned (.bool (os.all Option.isSome))∧Ext w w':=by
 replace h:=mK h;obtain ⟨n,hnn⟩:=nmE os.length;rw [←hnn];obtain ⟨r,hr⟩:=nmE (os.all Option.isSome);rw [←hr];have hn2:n≤4294967296:=by omega
 replace hnn:=mK hnn;replace hr:=mK hr;clear hn;obtain ⟨wo,hwo⟩:=nmE (w:World);go_enter Tryz.func71,Tryz.ntmps71;go_wp2_with fail;go_loopw [7] (fun i wr=>∃ k,k≤n∧i=.int .i64 (k:Nat)∧Ext wo wr∧∀ j,j<k→(os.getD j none).isSome=true) (fun i _=>n-(intOf i).toNat)
 case atStart=>exact ⟨0,Nat.zero_le _,rfl,hwo ▸ xR _,fun j hj=>absurd hj (by omega)⟩
 case round=>
  obtain ⟨k,hk,rfl,hE,hj⟩:=hrel;by_cases hlt:k<n
  ·obtain ⟨b1,a1,n1,c1,b2,a2,n2,c2,h1,h2,h3,h4,h5⟩:=(h.out.ext (hwo ▸ hE)) k (by rw [←hnn.out];exact hlt)
   have hck:=mK (fun w h=>Gn (.agg #[.bool b1,.slice a1 n1 c1,.bool b2,.slice a2 n2 c2]) (os.getD k none) w h);obtain ⟨o,ho⟩:=nmE (os.getD k none);rw [←ho] at hck h5;replace h5:=mK h5;replace hE:=mK hE;replace hj:=mK hj;replace ho:=mK ho;cases o with
   | none=>
    have hf:r=false:=by
     rw [hr.out,Bool.eq_false_iff];intro e;rw [List.all_eq_true] at e;have hkl:k<os.length:=by rw [←hnn.out];exact hlt
     have:=e _ (List.getElem_mem hkl);have h2:=ho.out;rw [List.getD_eq_getElem?_getD,List.getElem?_eq_getElem hkl] at h2;simp at h2;rw [←h2] at this;cases this
    subst hf;simp only [Option.isSome_none] at hck;go_wp2_with fail;refine (hck.out _ (h5.out.ext ((xR wr).al _))).mono ?_;rintro e w2 ⟨rfl,hE2⟩;replace hE:=mK (hE.out.trans (((xR wr).al _).trans hE2));clear hE2 h1 h2 h3 h4;go_wp2_with fail;go_ret;exact ⟨rfl,hwo ▸ hE.out⟩
   | some x=>
    simp only [Option.isSome_some] at hck;go_wp2_with fail;refine (hck.out _ (h5.out.ext ((xR wr).al _))).mono ?_;rintro e w2 ⟨rfl,hE2⟩;replace hE:=mK (hE.out.trans (((xR wr).al _).trans hE2));clear hE2 h1 h2 h3 h4;go_wp2_with fail;go_roundw
    case rel=>
     refine ⟨k+1,by omega,by go_num,hE.out,fun j hjk=>?_⟩;rcases Nat.lt_or_ge j k with h|h
     ·exact hj.out j h
     ·obtain rfl:j=k:=by omega
      rw [←ho.out];rfl
    case measure=>simp [intOf]<;>omega
  ·obtain rfl:n=k:=by omega
   have hf:r=true:=by
    rw [hr.out,List.all_eq_true];intro x hx;obtain ⟨j,hjl,rfl⟩:=List.getElem_of_mem hx;have:=hj j (by rw [hnn.out];exact hjl)
    rwa [List.getD_eq_getElem?_getD,List.getElem?_eq_getElem hjl] at this
   subst hf;replace hE:=mK hE;replace hj:=mK hj;go_wp2_with fail;go_ret;exact ⟨rfl,hwo ▸ hE.out⟩
def LR (w:World)(g:Nat)(os:List Rat):Prop:=
 ∀ k,k<os.length→∃ b1 a1 n1 c1 b2 a2 n2 c2,w.cell? ⟨g,k*4,none⟩=some (.bool b1)∧w.cell? ⟨g,k*4+1,none⟩=some (.slice a1 n1 c1)∧w.cell? ⟨g,k*4+2,none⟩=some (.bool b2)∧w.cell? ⟨g,k*4+3,none⟩=some (.slice a2 n2 c2) ∧
  FracR w (.agg #[.bool b1,.slice a1 n1 c1,.bool b2,.slice a2 n2 c2]) (os.getD k 0)
theorem LR.ext {w w':World}{g:Nat}{os:List Rat}(h:LR w g os)(e:Ext w w'):LR w' g os:=by
 intro k hk;obtain ⟨b1,a1,n1,c1,b2,a2,n2,c2,h1,h2,h3,h4,h5⟩:=h k hk;exact ⟨b1,a1,n1,c1,b2,a2,n2,c2,e.cell h1,e.cell h2,e.cell h3,e.cell h4,h5.ext e⟩
theorem Zd {w:World}{b1 b2:Bool}{a1 a2:Option Addr}{n1 c1 n2 c2:Nat}{x:Rat}(h:FracR w (.agg #[.bool b1,.slice a1 n1 c1,.bool b2,.slice a2 n2 c2]) x):n1=nl x.num∧n2=nl (x.den:Int):=by
 obtain ⟨s1,e1,_,_,rfl,_,_⟩:=h.num;obtain ⟨s2,e2,_,_,rfl,_,_⟩:=h.den;simp only [Value.agg.injEq,Array.mk.injEq,List.cons.injEq,and_true,Value.slice.injEq] at e1 e2;exact ⟨e1.2.2.1,e2.2.2.1⟩
theorem Pn (g cap:Nat)(os:List Rat)(w:World)(hn:os.length≤4294967296)(hb:∀ x∈os,nf x≤4294967296)(h:LR w g os) :
  Calls Tryz.prog 213 #[.slice (some ⟨g,0,none⟩) os.length cap] w fun e w'=>e=.returned (.bool (os.any fun x=>decide (2048<nf x)))∧Ext w w':=by
 replace h:=mK h;replace hb:=mK hb;obtain ⟨n,hnn⟩:=nmE os.length;rw [←hnn];obtain ⟨r,hr⟩:=nmE (os.any fun x=>decide (2048<nf x));rw [←hr];have hn2:n≤4294967296:=by omega
 replace hnn:=mK hnn;replace hr:=mK hr;clear hn;obtain ⟨wo,hwo⟩:=nmE (w:World);go_enter Tryz.func213,Tryz.ntmps213;go_wp2_with fail;go_loopw [7] (fun i wr=>∃ k,k≤n∧i=.int .i64 (k:Nat)∧Ext wo wr∧∀ j,j<k→nf (os.getD j 0)≤2048) (fun i _=>n-(intOf i).toNat)
 case atStart=>exact ⟨0,Nat.zero_le _,rfl,hwo ▸ xR _,fun j hj=>absurd hj (by omega)⟩
 case round=>
  obtain ⟨k,hk,rfl,hE,hj⟩:=hrel;by_cases hlt:k<n
  ·have hkl:k<os.length:=by rw [←hnn.out];exact hlt
   obtain ⟨b1,a1,n1,c1,b2,a2,n2,c2,h1,h2,h3,h4,h5⟩:=(h.out.ext (hwo ▸ hE)) k hkl;obtain ⟨l1,l2⟩:=Zd h5
   have hmem:os.getD k 0∈os:=by
    rw [List.getD_eq_getElem?_getD,List.getElem?_eq_getElem hkl];exact List.getElem_mem hkl
   have hbk:=hb.out _ hmem;have hfx:nf (os.getD k 0)=max n1 n2:=by rw [l1,l2];rfl
   have hm1:n1≤4294967296:=by omega
   have hm2:n2≤4294967296:=by omega
   have lg1:=mK (fun gg w h0 h1=>Abp gg b1 a1 n1 c1 1 w hm1 h0 h1);have lg2:=mK (fun gg w h0 h1=>Abp gg b2 a2 n2 c2 1 w hm2 h0 h1)
   have hrt:2048<nf (os.getD k 0)→r=true:=by
    intro h;rw [hr.out,List.any_eq_true];exact ⟨_,hmem,decide_eq_true h⟩
   replace hE:=mK hE;replace hj:=mK hj;replace hrt:=mK hrt;clear l1 l2 hbk h5;replace hfx:=mK hfx;replace hkl:=mK hkl;replace hmem:=mK hmem;by_cases g1:2048<n1
   ·rw [decide_eq_true g1] at lg1
    have hr1:r=true:=hrt.out (by rw [hfx.out];omega);subst hr1;go_wp2_with fail;refine (lg1.out _ _ (by go_simp) (by go_simp)).mono ?_;rintro e w2 ⟨rfl,hE2⟩;replace hE:=mK (hE.out.trans ((((xR wr).al _).al _).trans hE2));clear hE2 h1 h2 h3 h4;go_wp2_with fail;go_ret;exact ⟨rfl,hwo ▸ hE.out⟩
   ·rw [decide_eq_false g1] at lg1
    go_wp2_with fail;refine (lg1.out _ _ (by go_simp) (by go_simp)).mono ?_;rintro e w2 ⟨rfl,hE2⟩;have hb4:=Bt (hE2.blk ((heap_alloc_old _ _ (by simp)).trans (heap_alloc_new wr _)));replace hE:=mK (hE.out.trans ((((xR wr).al _).al _).trans hE2));clear hE2 h1 h2 h3 h4;by_cases g2:2048<n2
    ·rw [decide_eq_true g2] at lg2
     have hr1:r=true:=hrt.out (by rw [hfx.out];omega);subst hr1;go_wp2_with fail;refine (lg2.out _ _ (by go_simp) (by go_simp)).mono ?_;rintro e w3 ⟨rfl,hE2⟩;replace hE:=mK (hE.out.trans (((xR w2).al _).trans hE2));clear hE2 hb4;go_wp2_with fail;go_ret;exact ⟨rfl,hwo ▸ hE.out⟩
    ·rw [decide_eq_false g2] at lg2
     go_wp2_with fail;refine (lg2.out _ _ (by go_simp) (by go_simp)).mono ?_;rintro e w3 ⟨rfl,hE2⟩;replace hE:=mK (hE.out.trans (((xR w2).al _).trans hE2));clear hE2 hb4;go_wp2_with fail;go_roundw
     case rel=>
      refine ⟨k+1,by omega,by go_num,hE.out,fun j hjk=>?_⟩;rcases Nat.lt_or_ge j k with h|h
      ·exact hj.out j h
      ·obtain rfl:j=k:=by omega
       rw [hfx.out];omega
     case measure=>simp [intOf]<;>omega
  ·obtain rfl:n=k:=by omega
   have hf:r=false:=by
    rw [hr.out,List.any_eq_false];intro x hx;obtain ⟨j,hjl,rfl⟩:=List.getElem_of_mem hx;have:=hj j (by rw [hnn.out];exact hjl);rw [List.getD_eq_getElem?_getD,List.getElem?_eq_getElem hjl] at this;simpa using this
   subst hf;replace hE:=mK hE;replace hj:=mK hj;go_wp2_with fail;go_ret;exact ⟨rfl,hwo ▸ hE.out⟩
theorem Ss (g cap:Nat)(os:List Rat)(w:World)(hn:os.length≤4294967296)(hb:∀ x∈os,nf x≤4294967296)(h:LR w g os) :
  Calls Tryz.prog 199 #[.slice (some ⟨g,0,none⟩) os.length cap] w fun e w'=>e=.returned (.int .i64 (if (os.any fun x=>decide (2048<nf x))=true then 4 else 0))∧Ext w w':=by
 have hl:=mK (Pn g cap os w hn hb h);clear h hb hn;generalize (os.any fun x=>decide (2048<nf x))=r at *;generalize os.length=n at *;cases r
 ·rw [if_neg (by decide)]
  go_enter Tryz.func199,Tryz.ntmps199;go_wp2_with fail;refine hl.out.mono ?_;rintro e w' ⟨rfl,hE⟩;go_wp2_with fail;go_ret;exact ⟨rfl,hE⟩
 ·rw [if_pos rfl]
  go_enter Tryz.func199,Tryz.ntmps199;go_wp2_with fail;refine hl.out.mono ?_;rintro e w' ⟨rfl,hE⟩;go_wp2_with fail;go_ret;exact ⟨rfl,hE⟩
theorem Aj {P:Program}{fn:Func}{p q:Tmp}{ty:TypeId}(h:fn.results=#[.cell p ty,.tmp q])(tmps:Array Value)(w:World)(g:Nat)(t:TypeId)(cs:Array Value)(u:Value)(d:TypeDesc)
  (hp:tmps.getD p undef=.pointer (some ⟨g,0,none⟩)) (hq:tmps.getD q undef=u) (hg:w.heap[g]? = some (.cells cs t (0,0)))
  (hu:P.underlying ty=some d) (hd:(match d with | .struct _ | .array _ _=>true|_=>false)=true) (hi:(P.info? ty).map (·.size)=some cs.size) :
  (results fn tmps).run P w=.ok (.tuple #[.agg cs,u]) w:=by
 have hp':tmps[p]?.getD undef=.pointer (some ⟨g,0,none⟩):=by simpa using hp
 have hq':tmps[q]?.getD undef=u:=by simpa using hq
 simp [results,h,hp',hq',asAddr,run_loadVar_row w g t ty cs (0,0) d hg hu hd hi]
theorem Lb:OkL []:=by intro x hx;simp at hx
theorem Sr (w:World):AnyF w (.agg #[.bool false,.slice none 0 0,.bool false,.slice none 0 0]) none:=
 ⟨false,[],false,[],⟨none,0,none,0,rfl,by simp,by simp,⟨none,0,rfl,Lb,nR _,Gh w⟩,⟨none,0,rfl,Lb,nR _,Gh w⟩⟩,by unfold ratF okF;simp [sg,val]⟩
theorem Uf {w:World}{g:Nat}{b1 b2:Bool}{a1 a2:Option Addr}{n1 c1 n2 c2:Nat}{x:Rat}{T:Nat}(hg:w.heap[g]? = some (.cells #[.bool b1,.slice a1 n1 c1,.bool b2,.slice a2 n2 c2] T (0,0)))
  (h:FracR w (.agg #[.bool b1,.slice a1 n1 c1,.bool b2,.slice a2 n2 c2]) x):LR w g [x]:=by
 intro k hk;obtain rfl:k=0:=by simpa using hk
 have:=Bt hg;exact ⟨_,_,_,_,_,_,_,_,this.1,this.2.1,this.2.2.1,this.2.2.2,h⟩
def capF (x:Rat):Option Rat:=if nf x≤2048 then some x else none
def capE (x:Rat):Int:=if nf x≤2048 then 0 else 4
theorem Vi (v:Value)(x:Rat)(w:World)(hx:nf x≤268435456)(h:FracR w v x) :
  Calls Tryz.prog 140 #[v] w fun e w'=>∃ v',e=.returned (.tuple #[v',.int .i64 (capE x)])∧Ext w w'∧AnyF w' v' (capF x):=by
 have H:=h;obtain ⟨p1,q1,r1,s1,p2,q2,r2,s2,rfl⟩:=h.shape;have ha:=mK (fun w gg (hg:LR w gg [x])=>Ss gg 1 [x] w (by simp) (fun y hy=>by simp at hy;subst hy;omega) hg);have hc:=mK (fun w h=>Vd (.agg #[.bool p1,.slice q1 r1 s1,.bool p2,.slice q2 r2 s2]) x w hx h);simp only [List.any_cons,List.any_nil,Bool.or_false,decide_eq_true_eq] at ha;obtain ⟨w3,hw3⟩:=nmE (((w.alloc (.cells #[.bool p1,.slice q1 r1 s1,.bool p2,.slice q2 r2 s2] 28)).alloc (.cells #[.bool false,.slice none 0 0,.bool false,.slice none 0 0] 28)).alloc (.cells #[.bool p1,.slice q1 r1 s1,.bool p2,.slice q2 r2 s2] 28));have hE:=aLe3 hw3;have z0:=mK (aL30 hw3);have z1:=mK (aL31 hw3);have z2:w3.heap[w.heap.size+1+1]? = some (.cells #[.bool p1,.slice q1 r1 s1,.bool p2,.slice q2 r2 s2] 28 (0,0)):=by rw [hw3];exact Bl _ _ _ (by simp)
 replace H:=H.ext hE;replace ha:=mK (ha.out w3 _ (Uf z2 H));rw [List.length_singleton] at ha;unfold capE capF;replace H:=mK H;replace hE:=mK hE;clear h z2;by_cases hl:nf x≤2048
 ·rw [if_pos hl,if_pos hl]
  rw [if_neg (show ¬2048<nf x by omega)] at ha;go_enter Tryz.func140,Tryz.ntmps140;go_wp2_with fail;rw [←hw3];clear hw3;refine ha.out.mono ?_;rintro e w4 ⟨rfl,hE4⟩;have b0:=Bt (hE4.blk z0.out);replace z1:=mK (hE4.blk z1.out);have hz4:w.heap.size+2≤w4.heap.size:=(Array.getElem?_eq_some_iff.1 z1.out).1;replace H:=mK (H.out.ext hE4);replace hE:=mK (hE.out.trans hE4);clear hE4 ha;go_wp2_with fail;refine (hc.out w4 H.out).mono ?_;rintro e w5 ⟨v,rfl,hE5,hv⟩;obtain ⟨x1,x2,x3,x4,y1,y2,y3,y4,rfl⟩:=hv.r.shape;replace z1:=hE5.blk z1.out;have hsz4:w.heap.size+2≤w4.heap.size:=hz4;have FR:=(hv.row (g:=w.heap.size+1) (by omega) #[.bool x1,.slice x2 x3 x4,.bool y1,.slice y2 y3 y4]).r.any (by omega);rw [if_pos hl] at FR;have FE:=mK ((hE.out.trans hE5).row (show w.heap.size≤w.heap.size+1 by omega) #[.bool x1,.slice x2 x3 x4,.bool y1,.slice y2 y3 y4]);replace FR:=mK FR;clear hv hE5 b0;go_wp2_with (refine wpList_store_row rfl 28 (.tmp 2) (.tmp 13) rfl (w.heap.size+1) #[.bool x1,.slice x2 x3 x4,.bool y1,.slice y2 y3 y4] rfl rfl 28 _ z1 (by kernel_rfl) rfl (by kernel_rfl) ?_);exact bodyPost_ret (Aj rfl _ _ (w.heap.size+1) 28 #[.bool x1,.slice x2 x3 x4,.bool y1,.slice y2 y3 y4] _ _ rfl rfl (setRow_heap _ _ _ _ _ _ z1) Tryz.underlying28 rfl (by kernel_rfl)) rfl ⟨_,rfl,FE.out,FR.out⟩
 ·rw [if_neg hl,if_neg hl]
  rw [if_pos (show 2048<nf x by omega)] at ha;go_enter Tryz.func140,Tryz.ntmps140;go_wp2_with fail;rw [←hw3];clear hw3;refine ha.out.mono ?_;rintro e w4 ⟨rfl,hE4⟩;replace z1:=hE4.blk z1.out;have FR:=Sr (w4.setRow (w.heap.size+1) #[.bool false,.slice none 0 0,.bool false,.slice none 0 0]);have FE:=mK ((hE.out.trans hE4).row (show w.heap.size≤w.heap.size+1 by omega) #[.bool false,.slice none 0 0,.bool false,.slice none 0 0]);replace FR:=mK FR;clear hE4 ha;go_wp2_with (refine wpList_store_row rfl 28 (.tmp 2) (.tmp 10) rfl (w.heap.size+1) #[.bool false,.slice none 0 0,.bool false,.slice none 0 0] rfl rfl 28 _ z1 (by kernel_rfl) rfl (by kernel_rfl) ?_);exact bodyPost_ret (Aj rfl _ _ (w.heap.size+1) 28 #[.bool false,.slice none 0 0,.bool false,.slice none 0 0] _ _ rfl rfl (setRow_heap _ _ _ _ _ _ z1) Tryz.underlying28 rfl (by kernel_rfl)) rfl ⟨_,rfl,FE.out,FR.out⟩
def Sg:Value→Bool
 | .int _ _=>false
 | _=>true
theorem Row.flat {w:World}{a:Option Addr}{l:List Nat}{g T:Nat}{fr:Nat×Nat}{old:Array Value}(h:Row w a (limV l))(hg:w.heap[g]? = some (.cells old T fr))(ho:old.all Sg=true)(cs:Array Value):Row (w.setRow g cs) a (limV l):=by
 obtain ⟨b,off,h1,h2⟩:=h;refine ⟨b,off,h1,fun j hj=>?_⟩;have hc:=h2 j hj
 have hne:b≠g:=by
  rintro rfl;rw [Dg _ _ (by rw [Cc] at hj;exact hj)] at hc
  have hc2:old[off+j]? = some (.int .u32 ((l.getD j 0:Nat):Int)):=by
   simp only [World.cell?,hg] at hc;simpa using hc
  obtain ⟨hlt,he⟩:=Array.getElem?_eq_some_iff.1 hc2;have:=Array.all_eq_true.1 ho _ hlt;rw [he] at this;cases this
 have:((w.setRow g cs).heap[b]?)=w.heap[b]?:=setRow_other _ _ _ _ hne;simp only [World.cell?,this] at hc ⊢;exact hc
theorem AnyF.flat {w:World}{v:Value}{o:Option Rat}{g T:Nat}{fr:Nat×Nat}{old:Array Value}(h:AnyF w v o)(hg:w.heap[g]? = some (.cells old T fr))(ho:old.all Sg=true)(cs:Array Value):AnyF (w.setRow g cs) v o:=by
 obtain ⟨b1,l1,b2,l2,⟨a1,c1,a2,c2,h1,h2,h3,⟨x1,y1,e1,f1,g1,r1⟩,⟨x2,y2,e2,f2,g2,r2⟩⟩,h6⟩:=h;exact ⟨b1,l1,b2,l2,⟨a1,c1,a2,c2,h1,h2,h3,⟨x1,y1,e1,f1,g1,r1.flat hg ho cs⟩,⟨x2,y2,e2,f2,g2,r2.flat hg ho cs⟩⟩,h6⟩
theorem Ui {w:World}{g:Nat}{b1 b2 b3 b4:Bool}{a1 a2 a3 a4:Option Addr}{n1 c1 n2 c2 n3 c3 n4 c4:Nat}{o1 o2:Option Rat}{T:Nat}
  (hg:w.heap[g]? = some (.cells #[.bool b1,.slice a1 n1 c1,.bool b2,.slice a2 n2 c2,.bool b3,.slice a3 n3 c3,.bool b4,.slice a4 n4 c4] T (0,0)))
  (h:AnyF w (.agg #[.bool b1,.slice a1 n1 c1,.bool b2,.slice a2 n2 c2]) o1) (h':AnyF w (.agg #[.bool b3,.slice a3 n3 c3,.bool b4,.slice a4 n4 c4]) o2):LF w g [o1,o2]:=by
 intro k hk;have hk2:k=0∨k=1:=by simp at hk;omega
 rcases hk2 with rfl|rfl
 ·exact ⟨_,_,_,_,_,_,_,_,by simp [World.cell?,hg],by simp [World.cell?,hg],by simp [World.cell?,hg],by simp [World.cell?,hg],h⟩
 ·exact ⟨_,_,_,_,_,_,_,_,by simp [World.cell?,hg],by simp [World.cell?,hg],by simp [World.cell?,hg],by simp [World.cell?,hg],h'⟩
theorem Pj (X Y:Int)(hY:Y≠0):nf (Rat.divInt X Y)≤max (nl X) (nl Y):=by
 unfold nf;rw [Pk,Pm X Y hY,if_neg hY];have h1:=Kv X (Int.gcd X Y);have h2:=Kv Y (Int.gcd X Y);split<;>(try rw [Tv,Tv])<;>omega
theorem Bj (x y:Rat):nf (x*y)≤nf x+nf y:=by
 rw [←Wv];refine nT (Pj _ _ (Ke x y)) ?_;have h1:=Cl x.num y.num;have h2:=Cl x.den y.den;unfold nf;omega
theorem Kb (x y:Rat):nf (x-y)≤nf x+nf y+1:=by
 rw [←Py];refine nT (Pj _ _ (Ke x y)) ?_;have h1:=Cl x.num y.den;have h2:=Cl y.num x.den;have h3:=Cl x.den y.den;have h4:=Abf (x.num*y.den) (y.num*x.den);unfold nf;omega
theorem Ef (x y:Rat):nf (x+y)≤nf x+nf y+1:=by
 rw [←Ww];refine nT (Pj _ _ (Ke x y)) ?_;have h1:=Cl x.num y.den;have h2:=Cl y.num x.den;have h3:=Cl x.den y.den;have h4:=Tw (x.num*y.den) (y.num*x.den);unfold nf;omega
theorem Afx (v1 v2:Value)(X Y:Int)(w:World)(hX:nl X≤2048)(hY:nl Y≤2048)(hY0:Y≠0)(h1:IntR w v1 X)(h2:IntR w v2 Y) :
  Calls Tryz.prog 147 #[v1,v2] w fun e w'=>∃ v,e=.returned (.tuple #[v,.int .i64 0])∧Ext w w'∧AnyF w' v (some (Rat.divInt X Y)):=by
 have H1:=h1;have H2:=h2;have k1:=fun w (h:IntR w v1 X)=>Ld v1 _ _ w (by unfold nl at hX;omega) (Wq h);have k2:=fun w (h:IntR w v2 Y)=>Ld v2 _ _ w (by unfold nl at hY;omega) (Wq h);rw [if_pos (Mj hX)] at k1;rw [if_pos (Mj hY)] at k2;have ks:=fun w (h:IntR w v2 Y)=>Fz v2 Y w h (by omega);have lo:=fun w h1 h2=>Abm v1 v2 X Y w (by omega) (by omega) hY0 h1 h2;have hq:nf (Rat.divInt X Y)≤2048:=nT (Pj X Y hY0) (by omega);have han:=fun v w h=>Vi v (Rat.divInt X Y) w (by omega) h;simp only [capE,capF,if_pos hq] at han
 have hs:(Y.sign==0)=false:=by
  rw [beq_eq_false_iff_ne];intro h;exact hY0 (Int.sign_eq_zero_iff_zero.1 h)
 generalize Y.sign=S at *;obtain ⟨p1,q1,r1,s1,rfl⟩:=h1.shape;obtain ⟨p2,q2,r2,s2,rfl⟩:=h2.shape;replace k1:=mK k1;replace k2:=mK k2;replace ks:=mK ks;replace lo:=mK lo;replace han:=mK han;replace hq:=mK hq;obtain ⟨wb,hwb⟩:=nmE (((w.alloc (.cells #[.bool p1,.slice q1 r1 s1] 26)).alloc (.cells #[.bool p2,.slice q2 r2 s2] 26)).alloc (.cells #[.bool false,.slice none 0 0,.bool false,.slice none 0 0] 28));have hE:=aLe3 hwb;have hB0:=mK (aL30 hwb);have hB1:=mK (aL31 hwb);have hB2:wb.heap[w.heap.size+1+1]? = some (.cells #[.bool false,.slice none 0 0,.bool false,.slice none 0 0] 28):=by rw [hwb];exact Bl _ _ _ (by simp)
 replace H1:=mK (H1.ext hE);replace H2:=mK (H2.ext hE);replace hE:=mK hE;replace hB2:=mK hB2;replace hwb:=mK hwb;clear h1 h2 hY0 hX hY;go_enter Tryz.func147,Tryz.ntmps147;go_wp2_with fail;rw [←hwb.out];clear hwb;refine (k1.out _ H1.out).mono ?_;rintro e w1 ⟨rfl,hE1⟩;replace H1:=mK (H1.out.ext hE1);replace H2:=mK (H2.out.ext hE1);replace hE:=mK (hE.out.trans hE1);replace hB0:=mK (hE1.blk hB0.out);replace hB1:=mK (hE1.blk hB1.out);replace hB2:=mK (hE1.blk hB2.out);clear hE1;have c1:=Am hB1.out;go_wp2_with fail;refine (k2.out _ H2.out).mono ?_;rintro e w2 ⟨rfl,hE2⟩;clear c1;replace H1:=mK (H1.out.ext hE2);replace H2:=mK (H2.out.ext hE2);replace hE:=mK (hE.out.trans hE2);replace hB0:=mK (hE2.blk hB0.out);replace hB1:=mK (hE2.blk hB1.out);replace hB2:=mK (hE2.blk hB2.out);clear hE2;have c1:=Am hB1.out;go_wp2_with fail;refine (ks.out _ H2.out).mono ?_;rintro e w3 ⟨rfl,hE3⟩;clear c1;replace H1:=mK (H1.out.ext hE3);replace H2:=mK (H2.out.ext hE3);replace hE:=mK (hE.out.trans hE3);replace hB0:=mK (hE3.blk hB0.out);replace hB1:=mK (hE3.blk hB1.out);replace hB2:=mK (hE3.blk hB2.out);clear hE3;have c1:=Am hB1.out;have c0:=Am hB0.out;go_wp2_with fail;refine (lo.out _ H1.out H2.out).mono ?_;rintro e w4 ⟨v,rfl,hE4,hv⟩;clear c1 c0;replace H1:=mK (H1.out.ext hE4);replace H2:=mK (H2.out.ext hE4);replace hE:=mK (hE.out.trans hE4);replace hB0:=mK (hE4.blk hB0.out);replace hB1:=mK (hE4.blk hB1.out);replace hB2:=mK (hE4.blk hB2.out);clear hE4;go_wp2_with fail;refine (han.out _ _ hv).mono ?_;rintro e w5 ⟨v,rfl,hE5,hv⟩;replace H1:=mK (H1.out.ext hE5);replace H2:=mK (H2.out.ext hE5);replace hE:=mK (hE.out.trans hE5);replace hB0:=mK (hE5.blk hB0.out);replace hB1:=mK (hE5.blk hB1.out);replace hB2:=mK (hE5.blk hB2.out);clear hE5;obtain ⟨x1,x2,x3,x4,y1,y2,y3,y4,rfl⟩:=hv.shape;have FR:=hv.flat hB2.out (by simp [Sg]) #[.bool x1,.slice x2 x3 x4,.bool y1,.slice y2 y3 y4]
 have FE:=mK (hE.out.row (show w.heap.size≤w.heap.size+1+1 by omega) #[.bool x1,.slice x2 x3 x4,.bool y1,.slice y2 y3 y4]);replace FR:=mK FR;clear hv;go_wp2_with (refine wpList_store_row rfl 28 (.tmp 4) (.tmp 23) rfl (w.heap.size+1+1) #[.bool x1,.slice x2 x3 x4,.bool y1,.slice y2 y3 y4] rfl rfl 28 _ hB2.out (by kernel_rfl) rfl (by kernel_rfl) ?_);exact bodyPost_ret (Aj rfl _ _ (w.heap.size+1+1) 28 #[.bool x1,.slice x2 x3 x4,.bool y1,.slice y2 y3 y4] _ _ rfl rfl (setRow_heap _ _ _ _ _ _ hB2.out) Tryz.underlying28 rfl (by kernel_rfl)) rfl ⟨_,rfl,FE.out,FR.out⟩
theorem Wb {n:Int}(h0:-9223372036854775808≤n)(h1:n<9223372036854775808):nl n≤2048:=by
 unfold nl;exact nT (Cb (k:=2) (by omega)) (by omega)
theorem of_f (n d:Int)(w:World)(h0:-9223372036854775808≤n)(h1:n<9223372036854775808)(h2:-9223372036854775808≤d)(h3:d<9223372036854775808)(hd:d≠0) :
  Calls Tryz.prog 104 #[.int .i64 n,.int .i64 d] w fun e w'=>∃ v,e=.returned (.tuple #[v,.int .i64 0])∧Ext w w'∧AnyF w' v (some (Rat.divInt n d)):=by
 have o1:=mK (fun w=>of_c n w h0 h1);have o2:=mK (fun w=>of_c d w h2 h3);have mk:=mK (fun v v' w' k1 k2=>Afx v v' n d w' (Wb h0 h1) (Wb h2 h3) hd k1 k2);clear h0 h1 h2 h3 hd;go_enter Tryz.func104,Tryz.ntmps104;go_wp2_with fail;refine (o1.out _).mono ?_;rintro e w1 ⟨x,rfl,hE1,hx⟩;have hB:=mK (hE1.blk (heap_alloc_new _ _));replace hE1:=mK (((xR w).al _).trans hE1);replace hx:=mK hx.r;go_wp2_with fail;refine (o2.out _).mono ?_;rintro e w2 ⟨y,rfl,hE2,hy⟩;replace hx:=mK (hx.out.ext hE2);replace hy:=mK hy.r;replace hB:=mK (hE2.blk hB.out);replace hE1:=mK (hE1.out.trans hE2);clear hE2;go_wp2_with fail;refine (mk.out _ _ _ hx.out hy.out).mono ?_;rintro e w3 ⟨v,rfl,hE3,hv⟩;obtain ⟨x1,x2,x3,x4,y1,y2,y3,y4,rfl⟩:=hv.shape;replace hB:=hE3.blk hB.out;have FR:=mK (hv.flat hB (by simp [Sg]) #[.bool x1,.slice x2 x3 x4,.bool y1,.slice y2 y3 y4]);have FE:=mK ((hE1.out.trans hE3).row (nR _) #[.bool x1,.slice x2 x3 x4,.bool y1,.slice y2 y3 y4]);clear hv hE3 hE1;go_wp2_with (refine wpList_store_row rfl 28 (.tmp 4) (.tmp 11) rfl w.heap.size #[.bool x1,.slice x2 x3 x4,.bool y1,.slice y2 y3 y4] rfl rfl 28 _ hB (by kernel_rfl) rfl (by kernel_rfl) ?_);exact bodyPost_ret (Aj rfl _ _ w.heap.size 28 #[.bool x1,.slice x2 x3 x4,.bool y1,.slice y2 y3 y4] _ _ rfl rfl (setRow_heap _ _ _ _ _ _ hB) Tryz.underlying28 rfl (by kernel_rfl)) rfl ⟨_,rfl,FE.out,FR.out⟩
theorem Rr {a:Int}(h:a.natAbs<4294967296):nl a≤1:=by
 unfold nl;exact Md h
theorem Aci (x y:Rat):(x.num*y.den-y.num*x.den).sign=0↔x=y:=by
 rw [Int.sign_eq_zero_iff_zero];constructor
 ·intro h
  have e:x-y=0:=by
   rw [←Py,h];simp
  grind
 ·rintro rfl
  omega
theorem Adx {w:World}{g:Nat}{b1 b2 b3 b4 b5 b6 b7 b8:Bool}{a1 a2 a3 a4 a5 a6 a7 a8:Option Addr}{n1 c1 n2 c2 n3 c3 n4 c4 n5 c5 n6 c6 n7 c7 n8 c8:Nat}{o1 o2 o3 o4:Option Rat}{T:Nat}
  (hg:w.heap[g]? = some (.cells #[.bool b1,.slice a1 n1 c1,.bool b2,.slice a2 n2 c2,.bool b3,.slice a3 n3 c3,.bool b4,.slice a4 n4 c4,.bool b5,.slice a5 n5 c5,.bool b6,.slice a6 n6 c6,.bool b7,.slice a7 n7 c7,.bool b8,.slice a8 n8 c8] T (0,0)))
  (h1:AnyF w (.agg #[.bool b1,.slice a1 n1 c1,.bool b2,.slice a2 n2 c2]) o1) (h2:AnyF w (.agg #[.bool b3,.slice a3 n3 c3,.bool b4,.slice a4 n4 c4]) o2)
  (h3:AnyF w (.agg #[.bool b5,.slice a5 n5 c5,.bool b6,.slice a6 n6 c6]) o3) (h4:AnyF w (.agg #[.bool b7,.slice a7 n7 c7,.bool b8,.slice a8 n8 c8]) o4):LF w g [o1,o2,o3,o4]:=by
 intro k hk;have hk2:k=0∨k=1∨k=2∨k=3:=by simp at hk;omega
 rcases hk2 with rfl|rfl|rfl|rfl
 ·exact ⟨_,_,_,_,_,_,_,_,by simp [World.cell?,hg],by simp [World.cell?,hg],by simp [World.cell?,hg],by simp [World.cell?,hg],h1⟩
 ·exact ⟨_,_,_,_,_,_,_,_,by simp [World.cell?,hg],by simp [World.cell?,hg],by simp [World.cell?,hg],by simp [World.cell?,hg],h2⟩
 ·exact ⟨_,_,_,_,_,_,_,_,by simp [World.cell?,hg],by simp [World.cell?,hg],by simp [World.cell?,hg],by simp [World.cell?,hg],h3⟩
 ·exact ⟨_,_,_,_,_,_,_,_,by simp [World.cell?,hg],by simp [World.cell?,hg],by simp [World.cell?,hg],by simp [World.cell?,hg],h4⟩
theorem Al {w:World}{g T:Nat}{c:Array Value}(h:w.heap[g]? = some (.cells c T (0,0)))(k:Nat):w.cell? ⟨g,k,none⟩=c[k]?:=by simp [World.cell?,h]
theorem Ads {w:World}{g:Nat}{b1 b2 b3 b4 b5 b6 b7 b8:Bool}{a1 a2 a3 a4 a5 a6 a7 a8:Option Addr}{n1 c1 n2 c2 n3 c3 n4 c4 n5 c5 n6 c6 n7 c7 n8 c8:Nat}{o1 o2 o3 o4:Rat}{T:Nat}
  (hg:w.heap[g]? = some (.cells #[.bool b1,.slice a1 n1 c1,.bool b2,.slice a2 n2 c2,.bool b3,.slice a3 n3 c3,.bool b4,.slice a4 n4 c4,.bool b5,.slice a5 n5 c5,.bool b6,.slice a6 n6 c6,.bool b7,.slice a7 n7 c7,.bool b8,.slice a8 n8 c8] T (0,0)))
  (h1:FracR w (.agg #[.bool b1,.slice a1 n1 c1,.bool b2,.slice a2 n2 c2]) o1) (h2:FracR w (.agg #[.bool b3,.slice a3 n3 c3,.bool b4,.slice a4 n4 c4]) o2)
  (h3:FracR w (.agg #[.bool b5,.slice a5 n5 c5,.bool b6,.slice a6 n6 c6]) o3) (h4:FracR w (.agg #[.bool b7,.slice a7 n7 c7,.bool b8,.slice a8 n8 c8]) o4):LR w g [o1,o2,o3,o4]:=by
 intro k hk;have hk2:k=0∨k=1∨k=2∨k=3:=by simp at hk;omega
 rcases hk2 with rfl|rfl|rfl|rfl
 ·exact ⟨_,_,_,_,_,_,_,_,by simp [World.cell?,hg],by simp [World.cell?,hg],by simp [World.cell?,hg],by simp [World.cell?,hg],h1⟩
 ·exact ⟨_,_,_,_,_,_,_,_,by simp [World.cell?,hg],by simp [World.cell?,hg],by simp [World.cell?,hg],by simp [World.cell?,hg],h2⟩
 ·exact ⟨_,_,_,_,_,_,_,_,by simp [World.cell?,hg],by simp [World.cell?,hg],by simp [World.cell?,hg],by simp [World.cell?,hg],h3⟩
 ·exact ⟨_,_,_,_,_,_,_,_,by simp [World.cell?,hg],by simp [World.cell?,hg],by simp [World.cell?,hg],by simp [World.cell?,hg],h4⟩
theorem Ut {l m:List Nat}(hl:l.length=m.length)(h:∀ j,j<l.length→l.getD j 0=m.getD j 0):l=m:=by
 refine List.ext_getElem hl fun j h1 h2=>?_;have:=h j h1;simpa [List.getD_eq_getElem?_getD,h1,h2] using this
theorem Nk (v1 v2:Value)(b1 b2:Bool)(l1 l2:List Nat)(w:World)(hl1:l1.length≤4294967296)(_hl2:l2.length≤4294967296)(h1:AnyR w v1 b1 l1)(h2:AnyR w v2 b2 l2) :
  Calls Tryz.prog 100 #[v1,v2] w fun e w'=>e=.returned (.bool (decide (b1=b2∧l1=l2)))∧Ext w w':=by
 obtain ⟨a1,c1,rfl,ok1,_,r1⟩:=h1;obtain ⟨a2,c2,rfl,ok2,_,r2⟩:=h2;by_cases hb:b1=b2
 ·by_cases hlen:l1.length=l2.length
  ·subst hb
   obtain ⟨r,hr⟩:=nmE (decide (b1=b1∧l1=l2));rw [←hr];obtain ⟨g1,o1,ha1,hc1⟩:=r1;obtain ⟨g2,o2,ha2,hc2⟩:=r2;obtain ⟨n,hn⟩:=nmE l1.length;have hn2:n=l2.length:=by omega
   have hnb:n≤4294967296:=by omega
   rw [←hn,←hn2];obtain ⟨wb,hwb⟩:=nmE ((w.alloc (.cells #[.bool b1,.slice a1 n c1] 26)).alloc (.cells #[.bool b1,.slice a2 n c2] 26));have hE:=mK (aLe2 hwb);have z0:=aL20 hwb;have z1:=aL21 hwb;have y0:=Am z0;have y1:=Am z1;replace hwb:=mK hwb;replace hr:=mK hr;replace hn:=mK hn;replace hn2:=mK hn2;replace ha1:=mK ha1;replace ha2:=mK ha2;replace hc1:=mK hc1;replace hc2:=mK hc2;clear hlen z0 z1;go_enter Tryz.func100,Tryz.ntmps100;go_wp2_with fail;rw [←hwb.out];obtain ⟨wo,hwo⟩:=nmE (wb:World);go_loopw [5] (fun i wr=>∃ k,k≤n∧i=.int .i64 (k:Nat)∧Ext wo wr∧∀ j,j<k→l1.getD j 0=l2.getD j 0) (fun i _=>n-(intOf i).toNat)
   case atStart=>exact ⟨0,Nat.zero_le _,rfl,hwo ▸ xR _,fun j hj=>absurd hj (by omega)⟩
   case round=>
    obtain ⟨k,hk,rfl,hX,hj⟩:=hrel;have x0:=(hwo ▸ hX:Ext wb wr).cell y0.2;have x1:=(hwo ▸ hX:Ext wb wr).cell y1.2;have hEw:Ext w wr:=hE.out.trans (hwo ▸ hX);clear y0 y1;by_cases hlt:k<n
    ·have u1:k<l1.length:=by rw [←hn.out];exact hlt
     have u2:k<l2.length:=by rw [←hn2.out];exact hlt
     have e1:wr.cell? ⟨g1,o1+k,none⟩=some (.int .u32 (l1.getD k 0:Nat)):=by
      have:=hEw.cell (hc1.out k (by rw [Cc];exact u1))
      rwa [Dg _ _ u1] at this
     have e2:wr.cell? ⟨g2,o2+k,none⟩=some (.int .u32 (l2.getD k 0:Nat)):=by
      have:=hEw.cell (hc2.out k (by rw [Cc];exact u2))
      rwa [Dg _ _ u2] at this
     have q1:=ha1.out (Co u1);have q2:=ha2.out (Co u2);subst q1;subst q2
     have hne:l1.getD k 0≠l2.getD k 0→r=false:=by
      intro h;rw [hr.out];refine decide_eq_false (fun e=>h (by rw [e.2]))
     have hs:∀ j,j<k+1→l1.getD k 0=l2.getD k 0→l1.getD j 0=l2.getD j 0:=by
      intro j h e;rcases Nat.lt_or_ge j k with h1|h1
      ·exact hj j h1
      ·obtain rfl:j=k:=by omega
       exact e
     generalize l1.getD k 0=x at *;generalize l2.getD k 0=y at *;replace hs:=mK hs;replace hne:=mK hne;replace hEw:=mK hEw;replace hX:=mK hX;clear hj u1 u2 hc1 hc2 ha1 ha2;by_cases hxy:x=y
     ·subst hxy
      go_wp2_with fail;go_quiet (fail);go_wp2_with fail;go_roundw
      case rel=>exact ⟨k+1,by omega,by go_num,hX.out.drN _,fun j h=>hs.out j h (by trivial)⟩
      case measure=>simp [intOf]<;>omega
     ·have hb1:((x:Int)==(y:Int))=false:=by rw [beq_eq_false_iff_ne];omega
      obtain rfl:=hne.out hxy;replace hxy:=mK hxy;go_wp2_with fail;go_quiet (fail);go_wp2_with fail;go_ret;exact ⟨rfl,hEw.out.drN _⟩
    ·obtain rfl:n=k:=by omega
     have hrt:r=true:=by
      rw [hr.out];exact decide_eq_true ⟨by trivial,Ut (by rw [←hn.out,←hn2.out]) (fun j h=>hj j (by rw [hn.out];exact h))⟩
     subst hrt;replace hEw:=mK hEw;clear hj hX;go_wp2_with fail;go_ret;exact ⟨rfl,hEw.out⟩
  ·have hf:decide (b1=b2∧l1=l2)=false:=decide_eq_false (fun h=>hlen (by rw [h.2]))
   rw [hf];have hl:((l1.length:Int)==(l2.length:Int))=false:=by rw [beq_eq_false_iff_ne];omega
   subst hb;clear hf r1 r2;generalize l1.length=n1 at *;generalize l2.length=n2 at *;replace hlen:=mK hlen;go_enter Tryz.func100,Tryz.ntmps100;go_wp2_with fail;go_ret;exact ⟨rfl,((xR _).al _).al _⟩
 ·have hf:decide (b1=b2∧l1=l2)=false:=decide_eq_false (fun h=>hb h.1)
  rw [hf];have hbb:(b1==b2)=false:=by rw [beq_eq_false_iff_ne];exact hb
  clear hf r1 r2;generalize l1.length=n1 at *;generalize l2.length=n2 at *;replace hb:=mK hb;go_enter Tryz.func100,Tryz.ntmps100;go_wp2_with fail;go_ret;exact ⟨rfl,((xR _).al _).al _⟩
theorem Fg (x:Rat)(h:x.num.natAbs<4294967296)(h':x.den<4294967296):nf x≤2048:=by
 unfold nf;exact Nat.max_le.2 ⟨nT (Rr h) (by decide),nT (Rr (by rw [Int.natAbs_natCast];exact h')) (by decide)⟩
theorem Oa (b:Bool)(a:Option Addr)(n c:Nat)(w:World)(hn:n≤140737488355328) :
  Calls Tryz.prog 111 #[.agg #[.bool b,.slice a n c]] w fun e w'=>e=.returned (.int .i64 (1+n))∧Ext w w':=by
 have FE:=mK ((xR w).al (.cells #[.bool b,.slice a n c] 26));go_enter Tryz.func111,Tryz.ntmps111;go_wp2_with fail;go_ret;exact ⟨by trivial,FE.out⟩
def lowV (n m:Nat):Int:=Int.tdiv ((min (n:Int) 1048576)*(min (m:Int) 1048576)) 16*1024
theorem Ug (n m:Nat):0≤lowV n m∧lowV n m≤70368744177664:=by
 unfold lowV;obtain ⟨x,hx⟩:=nmE ((min (n:Int) 1048576):Int);obtain ⟨y,hy⟩:=nmE ((min (m:Int) 1048576):Int);rw [←hx,←hy];have h1:0≤x∧x≤1048576:=by omega
 have h2:0≤y∧y≤1048576:=by omega
 have h3:0≤x*y:=Int.mul_nonneg h1.1 h2.1;have h4:x*y≤1048576*1048576:=Int.mul_le_mul h1.2 h2.2 h2.1 (by omega);rw [Int.tdiv_eq_ediv_of_nonneg h3];omega
theorem Abo (n m:Nat):RowKit.wrap64 (RowKit.wrap64 ((RowKit.wrap64 (min (n:Int) 1048576*min (m:Int) 1048576)).tdiv 16)*1024)=lowV n m:=by
 have hb:=Ug n m;unfold lowV at *;have h1:0≤min (n:Int) 1048576∧min (n:Int) 1048576≤1048576:=by omega
 have h2:0≤min (m:Int) 1048576∧min (m:Int) 1048576≤1048576:=by omega
 generalize min (n:Int) 1048576=x at *;generalize min (m:Int) 1048576=y at *;have h3:0≤x*y:=Int.mul_nonneg h1.1 h2.1;have h4:x*y≤1048576*1048576:=Int.mul_le_mul h1.2 h2.2 h2.1 (by omega);have e:(x*y).tdiv 16=x*y/16:=Int.tdiv_eq_ediv_of_nonneg h3;rw [e] at hb ⊢;rw [IntWalk.wrap64_in (x*y) (by omega),e,IntWalk.wrap64_in (x*y/16) (by omega),IntWalk.wrap64_in _ (by omega)]
theorem Abn (b b':Bool)(a a':Option Addr)(n c n' c':Nat)(w:World)(_hn:n≤140737488355328)(_hn':n'≤140737488355328) :
  Calls Tryz.prog 55 #[.agg #[.bool b,.slice a n c],.agg #[.bool b',.slice a' n' c']] w fun e w'=>e=.returned (.int .i64 (lowV n n'))∧Ext w w':=by
 have FE:=mK (((xR w).al (.cells #[.bool b,.slice a n c] 26)).al (.cells #[.bool b',.slice a' n' c'] 26));go_enter Tryz.func55,Tryz.ntmps55;go_wp2_with fail;go_ret;exact ⟨Et (Abo n n'),FE.out⟩
theorem Uq (b b':Bool)(a a':Option Addr)(n c n' c':Nat)(w:World)(hn:n≤140737488355328)(hn':n'≤140737488355328) :
  Calls Tryz.prog 54 #[.agg #[.bool b,.slice a n c,.bool b',.slice a' n' c']] w fun e w'=>e=.returned (.int .i64 (1+n+(1+n')))∧Ext w w':=by
 have k1:=mK (fun w=>Oa b a n c w hn);have k2:=mK (fun w=>Oa b' a' n' c' w hn');go_enter Tryz.func54,Tryz.ntmps54;go_wp2_with fail;obtain ⟨wb,hwb⟩:=nmE (w.alloc (.cells #[.bool b,.slice a n c,.bool b',.slice a' n' c'] 28));have hE:=mK (aLe1 hwb);obtain ⟨c0,c1,c2,c3⟩:=ceX3 (aL10 hwb);rw [←hwb];clear hwb;apply Ak [.val _,.val _,.val (.int .i64 (1+n)),.val _,.val _,.val (.int .i64 (1+n')),.val (.int .i64 (1+n+(1+n')))] (by kernel_rfl) (stable_vals _ (stable_vals _ (stable_vals _ (stable_vals _ (stable_vals _ (stable_vals _ (stable_vals _ trivial)))))));iterate 2 (refine ⟨fun W hW _=>by go_simp;exact ⟨xR _,rfl⟩,?_⟩)
 refine ⟨fun W hW _=>?g2,?_⟩
 case g2=>
  go_simp;refine (k1.out W).mono ?_;rintro e w' ⟨rfl,h1⟩;exact ⟨rfl,h1⟩
 iterate 2 (refine ⟨fun W hW _=>by go_simp;exact ⟨xR _,rfl⟩,?_⟩)
 refine ⟨fun W hW _=>?g5,⟨fun W hW _=>by go_simp;exact ⟨xR _,by rw [IntKind.wrap_i64];omega⟩,?_⟩⟩
 case g5=>
  go_simp;refine (k2.out W).mono ?_;rintro e w' ⟨rfl,h1⟩;exact ⟨rfl,h1⟩
 intro W hW _;clear c0 c1 c2 c3;replace hE:=mK (hE.out.trans hW);clear hW;go_simp;go_wp2_with fail;go_ret;exact ⟨by trivial,hE.out⟩
def Bq (n n':Nat):Int:=1+n+(1+n')+lowV n n'
theorem Db (b b':Bool)(a a':Option Addr)(n c n' c':Nat)(w:World)(hn:n≤140737488355328)(hn':n'≤140737488355328) :
  Calls Tryz.prog 17 #[.agg #[.bool b,.slice a n c,.bool b',.slice a' n' c']] w fun e w'=>e=.returned (.int .i64 (Bq n n'))∧Ext w w':=by
 have k1:=mK (fun w=>Uq b b' a a' n c n' c' w hn hn');have k2:=mK (fun w=>Abn b b' a a' n c n' c' w hn hn');obtain ⟨S,hS⟩:=nmE (1+n+(1+n'):Int);have hb:=Ug n n';unfold Bq;rw [←hS] at k1;rw [←hS];generalize lowV n n'=L at *;have hS0:0≤S∧S≤562949953421312:=by omega
 clear hS hn hn';obtain ⟨hb1,hb2⟩:=hb;obtain ⟨hS1,hS2⟩:=hS0;go_enter Tryz.func17,Tryz.ntmps17;go_wp2_with fail;obtain ⟨wb,hwb⟩:=nmE (w.alloc (.cells #[.bool b,.slice a n c,.bool b',.slice a' n' c'] 28));have hE:=mK (aLe1 hwb);obtain ⟨c0,c1,c2,c3⟩:=ceX3 (aL10 hwb);rw [←hwb];clear hwb;apply Ak [.val _,.val (.int .i64 S),.val _,.val _,.val _,.val _,.val (.int .i64 L),.val (.int .i64 (S+L))] (by kernel_rfl) (stable_vals _ (stable_vals _ (stable_vals _ (stable_vals _ (stable_vals _ (stable_vals _ (stable_vals _ (stable_vals _ trivial))))))));refine ⟨fun W hW _=>by go_simp;exact ⟨xR _,rfl⟩,⟨fun W hW _=>?g1,?_⟩⟩
 case g1=>
  go_simp;refine (k1.out W).mono ?_;rintro e w' ⟨rfl,h1⟩;exact ⟨rfl,h1⟩
 iterate 4 (refine ⟨fun W hW _=>by go_simp;exact ⟨xR _,rfl⟩,?_⟩)
 refine ⟨fun W hW _=>?g5,⟨fun W hW _=>by go_simp;exact ⟨xR _,by rw [IntKind.wrap_i64];omega⟩,?_⟩⟩
 case g5=>
  go_simp;refine (k2.out W).mono ?_;rintro e w' ⟨rfl,h1⟩;exact ⟨rfl,h1⟩
 intro W hW _;clear c0 c1 c2 c3;replace hE:=mK (hE.out.trans hW);clear hW;go_simp;go_wp2_with fail;go_ret;exact ⟨by trivial,hE.out⟩
theorem Bi (n m:Nat)(hn:n≤140737488355328)(hm:m≤140737488355328):0≤Bq n m∧Bq n m≤562949953421312∧(n:Int)≤Bq n m∧(m:Int)≤Bq n m:=by
 have:=Ug n m;unfold Bq;omega

theorem Xu (Ab:Bool)(Aa:Option Addr)(nA Ac:Nat)(Ae:Bool)(Ad:Option Addr)(mA Af:Nat)(Bb:Bool)(Ba:Option Addr)(nB Bc:Nat)(Be:Bool)(Bd:Option Addr)(mB Bf:Nat)(w:World)(hnA:nA≤140737488355328)(hmA:mA≤140737488355328)(hnB:nB≤140737488355328)(hmB:mB≤140737488355328) :
  Calls Tryz.prog 16 #[.agg #[.bool Ab,.slice Aa nA Ac,.bool Ae,.slice Ad mA Af,.bool Bb,.slice Ba nB Bc,.bool Be,.slice Bd mB Bf]] w fun e w'=>e=.returned (.int .i64 (Bq nA mA+Bq nB mB))∧Ext w w':=by
 have kA:=mK (fun w=>Db Ab Ae Aa Ad nA Ac mA Af w hnA hmA);obtain ⟨pA,qA,-⟩:=Bi nA mA hnA hmA;have kB:=mK (fun w=>Db Bb Be Ba Bd nB Bc mB Bf w hnB hmB);obtain ⟨pB,qB,-⟩:=Bi nB mB hnB hmB;generalize Bq nA mA=CA at *;generalize Bq nB mB=CB at *;clear hnA hmA hnB hmB;go_enter Tryz.func16,Tryz.ntmps16;go_wp2_with fail;obtain ⟨wb,hwb⟩:=nmE (w.alloc (.cells #[.bool Ab,.slice Aa nA Ac,.bool Ae,.slice Ad mA Af,.bool Bb,.slice Ba nB Bc,.bool Be,.slice Bd mB Bf] 30));have hE:=mK (aLe1 hwb);obtain ⟨c0,c1,c2,c3,c4,c5,c6,c7⟩:=ceX7 (aL10 hwb);rw [←hwb];clear hwb;apply Ak [.val _,.val _,.val (.int .i64 CA),.val _,.val _,.val (.int .i64 CB),.val (.int .i64 (CA+CB))] (by kernel_rfl) (stable_vals _ (stable_vals _ (stable_vals _ (stable_vals _ (stable_vals _ (stable_vals _ (stable_vals _ trivial)))))));refine ⟨fun W hW _=>by go_simp;exact ⟨xR _,rfl⟩,?_⟩;refine ⟨fun W hW _=>by go_simp;exact ⟨xR _,rfl⟩,?_⟩;refine ⟨fun W hW _=>?g2,?_⟩
 case g2=>
  go_simp;refine (kA.out W).mono ?_;rintro e w' ⟨rfl,h1⟩;exact ⟨rfl,h1⟩
 refine ⟨fun W hW _=>by go_simp;exact ⟨xR _,rfl⟩,?_⟩;refine ⟨fun W hW _=>by go_simp;exact ⟨xR _,rfl⟩,?_⟩;refine ⟨fun W hW _=>?g5,?_⟩
 case g5=>
  go_simp;refine (kB.out W).mono ?_;rintro e w' ⟨rfl,h1⟩;exact ⟨rfl,h1⟩
 refine ⟨fun W hW _=>by go_simp;exact ⟨xR _,by rw [IntKind.wrap_i64];omega⟩,?_⟩;intro W hW _;clear c0 c1 c2 c3 c4 c5 c6 c7;replace hE:=mK (hE.out.trans hW);clear hW;go_simp;go_wp2_with fail;go_ret;exact ⟨by trivial,hE.out⟩

def ByV (s:Int)(v:Value):Prop:=∃ r,v=.bool r∧(r=false→s≤1048576)
def RawF (w:World)(v:Value):Prop:=
 ∃ b1 a1 c1 b2 a2 c2,∃ l1 l2:List Nat,v=.agg #[.bool b1,.slice a1 l1.length c1,.bool b2,.slice a2 l2.length c2]∧l1.length≤140737488355328∧l2.length≤140737488355328 ∧
  AnyR w (.agg #[.bool b1,.slice a1 l1.length c1]) b1 l1∧AnyR w (.agg #[.bool b2,.slice a2 l2.length c2]) b2 l2
theorem RawF.opened {w:World}{v:Value}(h:RawF w v):∃ b1 a1 n1 c1 b2 a2 n2 c2,v=.agg #[.bool b1,.slice a1 n1 c1,.bool b2,.slice a2 n2 c2]∧n1≤140737488355328∧n2≤140737488355328 ∧
  (n1≤4294967296→n2≤4294967296→∃ o,AnyF w (.agg #[.bool b1,.slice a1 n1 c1,.bool b2,.slice a2 n2 c2]) o):=by
 obtain ⟨b1,a1,c1,b2,a2,c2,l1,l2,h0,h1,h2,h3,h4⟩:=h;exact ⟨b1,a1,_,c1,b2,a2,_,c2,h0,h1,h2,fun g1 g2=>⟨_,b1,l1,b2,l2,⟨a1,c1,a2,c2,rfl,g1,g2,h3,h4⟩,rfl⟩⟩
end Go.Proofs.YtlknpnommcohkaaGreatDoor
namespace Go.Proofs.YtlknpnommcohkaaGreatDoor
set_option maxRecDepth 100000
open Go Go.ChangeShapes Go.WideShapes Go.ChangeAt Go.RowKit Go.Joins Go.Deep
theorem Zg:Tryz.prog.cellsOf 150=1:=by kernel_rfl
theorem Zp:Tryz.prog.bytesOf 150=4:=by kernel_rfl
theorem Vf:Tryz.prog.cellsOf 4=1:=by kernel_rfl
theorem Zk:Tryz.prog.cellsOf 24=1:=by kernel_rfl
theorem Of:Tryz.prog.cellsOf 26=2:=by kernel_rfl
theorem Dd:Tryz.prog.cellsOf 28=4:=by kernel_rfl
theorem Aay:reachBytes≤140737488355328:=nT (Nat.le_of_lt reachBytes_lt) (Nat.le_of_eq (by kernel_rfl))
section
variable {H:Type} {enc:TypeId×Value→H} {w:World} {base:Nat} {spare:Nat→Bool} {held:Bool}
theorem Aa9 {fuel:Nat}{cs:List Value}{x:DataW H×List MemPlace}(h:DataW.trod enc Tryz.prog w base spare held fuel 24 cs=some x) :
  ∃ (a:Option Addr) (c:Nat) (l:List Nat),cs=[.slice a l.length c]∧OkL l∧l.length≤c∧Row w a (limV l)∧∀ M,(∀ k∈x.1.weights Tryz.prog 24,k≤M)→l.length*4≤M:=by
 rcases open_slice Tryz.underlying24 h with ⟨rfl,_⟩|⟨a,len,cap,m,n,D,Pl,rfl,hb,hl,hm,hmm,rfl,hi⟩
 ·exact ⟨none,0,[],rfl,Lb,nR _,Gh w,fun M _=>by simp⟩
 ·have hlm:len≤m:=by rw [hmm];split<;>omega
  have hcell:∀ i,i<len→∃ b:Nat,b<4294967296∧w.cell? (a.add i)=some (.int .u32 (b:Int)):=by
   intro i hlt;obtain ⟨cs',h1,h2⟩:=hi i (by omega);obtain ⟨b,rfl,_,hwf⟩:=DataW.trod_int Tryz.underlying150 h2;rw [Zg] at h1;obtain ⟨_,_,hat⟩:=World.cells?_some h1;have:=hat 0 (by omega)
   have hb2:0≤b∧b≤4294967295:=by
    have h:IntKind.u32.min≤b∧b≤IntKind.u32.max:=by simpa [Lit.wf] using hwf
    have e1:IntKind.u32.min=0:=rfl;have e2:IntKind.u32.max=4294967295:=rfl;omega
   obtain ⟨b',rfl⟩:=Int.eq_ofNat_of_zero_le hb2.1;refine ⟨b',by omega,?_⟩;simpa [Addr.add] using this
  have hlist:(List.range len).map (fun i=>match w.cell? (a.add i) with|some (.int _ b)=>b.toNat|_=>0)=(List.range len).map (fun i=>match w.cell? (a.add i) with|some (.int _ b)=>b.toNat|_=>0):=rfl;refine ⟨some a,cap,(List.range len).map (fun i=>match w.cell? (a.add i) with|some (.int _ b)=>b.toNat|_=>0),by simp,?_,by simpa using hl,?_,?_⟩
  ·intro y hy
   obtain ⟨i,hi',rfl⟩:=List.mem_map.1 hy;obtain ⟨b,hb1,hb2⟩:=hcell i (List.mem_range.1 hi');simp only [hb2];simpa using hb1
  ·refine ⟨a.block,a.off,fun hne=>?_,fun j hj=>?_⟩
   ·have h0:0<len:=by
     rcases Nat.eq_zero_or_pos len with h|h
     ·subst h;simp [limV] at hne
     ·exact h
    obtain ⟨b,_,hb'⟩:=hcell 0 h0;obtain ⟨bl,of,sp⟩:=a;have:sp=none:=by simpa [Addr.add] using World.cell?_spot hb'
    subst this;rfl
   ·have hj':j<len:=by simpa [limV] using hj
    obtain ⟨b,_,hb'⟩:=hcell j hj'
    have hadd:a.add j=⟨a.block,a.off+j,none⟩:=by
     obtain ⟨bl,of,sp⟩:=a
     have:sp=none∨j≠0:=by
      rcases Nat.eq_zero_or_pos j with h|h
      ·subst h
       exact .inl (by simpa [Addr.add] using World.cell?_spot hb')
      ·exact .inr (by omega)
     unfold Addr.add;split
     ·rename_i h
      rcases this with h2|h2
      ·simp [h,h2]
      ·exact absurd h h2
     ·rfl
    rw [←hadd,hb'];simp [limV,hj',hb']
  ·intro M hM
   have:=hM ((len+(m-len))*Tryz.prog.bytesOf 150) (by simp [DataW.weights,Tryz.underlying24]);rw [Zp] at this;simp only [List.length_map,List.length_range];omega
theorem Jd {α:Type}{l:List α}(h:l.length=2):∃ a b,l=[a,b]:=by
 match l,h with
 | [a,b],_=>exact ⟨a,b,rfl⟩
theorem Yv {α:Type}{l:List α}(h:l.length=4):∃ a b c d,l=[a,b,c,d]:=by
 match l,h with
 | [a,b,c,d],_=>exact ⟨a,b,c,d,rfl⟩
theorem Ns {fuel:Nat}{cs:List Value}{x:DataW H×List MemPlace}(h:DataW.trod enc Tryz.prog w base spare held fuel 26 cs=some x) :
  ∃ (b:Bool) (a:Option Addr) (c:Nat) (l:List Nat),cs=[.bool b,.slice a l.length c]∧OkL l∧l.length≤c∧Row w a (limV l)∧∀ M,(∀ k∈x.1.weights Tryz.prog 26,k≤M)→l.length*4≤M:=by
 obtain ⟨xs,n,_,rfl,hlen,hxl,hf⟩:=DataW.trod_struct Tryz.underlying26 h;rw [Of] at hlen;obtain ⟨c0,c1,rfl⟩:=Jd hlen;obtain ⟨y0,y1,rfl⟩:=Jd hxl;have h0:DataW.trod enc Tryz.prog w base spare held n 4 (([c0,c1].drop 0).take (Tryz.prog.cellsOf 4))=some y0:=hf 0 _ rfl;have h1:DataW.trod enc Tryz.prog w base spare held n 24 (([c0,c1].drop 1).take (Tryz.prog.cellsOf 24))=some y1:=hf 1 _ rfl;rw [Vf] at h0;rw [Zk] at h1;obtain ⟨b,hb,_⟩:=DataW.trod_bool Tryz.underlying4 h0;obtain ⟨a,c,l,hs,hk,hc,hr,hM⟩:=Aa9 h1;simp at hb hs;subst hb hs;refine ⟨b,a,c,l,rfl,hk,hc,hr,fun M h=>hM M fun k hk=>h k ?_⟩;simp [DataW.weights,Tryz.underlying26,DataW.weightsEach,hk]
theorem Ih {fuel:Nat}{cs:List Value}{x:DataW H×List MemPlace}(h:DataW.trod enc Tryz.prog w base spare held fuel 28 cs=some x) :
  ∃ v1 v2 v3 v4,cs=[v1,v2,v3,v4]∧∀ M,(∀ k∈x.1.weights Tryz.prog 28,k≤M)→M≤140737488355328→RawF w (.agg #[v1,v2,v3,v4]):=by
 obtain ⟨xs,n,_,rfl,hlen,hxl,hf⟩:=DataW.trod_struct Tryz.underlying28 h;rw [Dd] at hlen;obtain ⟨c0,c1,c2,c3,rfl⟩:=Yv hlen;obtain ⟨y0,y1,rfl⟩:=Jd hxl;have h0:DataW.trod enc Tryz.prog w base spare held n 26 (([c0,c1,c2,c3].drop 0).take (Tryz.prog.cellsOf 26))=some y0:=hf 0 _ rfl;have h1:DataW.trod enc Tryz.prog w base spare held n 26 (([c0,c1,c2,c3].drop 2).take (Tryz.prog.cellsOf 26))=some y1:=hf 1 _ rfl;rw [Of] at h0 h1;obtain ⟨b1,a1,m1,l1,hs1,hk1,hc1,hr1,hM1⟩:=Ns h0;obtain ⟨b2,a2,m2,l2,hs2,hk2,hc2,hr2,hM2⟩:=Ns h1;simp at hs1 hs2;obtain ⟨rfl,rfl⟩:=hs1;obtain ⟨rfl,rfl⟩:=hs2;refine ⟨_,_,_,_,rfl,fun M h hM=>?_⟩;have g1:=hM1 M fun k hk=>h k (by simp [DataW.weights,Tryz.underlying28,DataW.weightsEach,hk]);have g2:=hM2 M fun k hk=>h k (by simp [DataW.weights,Tryz.underlying28,DataW.weightsEach,hk]);exact ⟨b1,a1,m1,b2,a2,m2,l1,l2,rfl,by omega,by omega,⟨a1,m1,rfl,hk1,hc1,hr1⟩,⟨a2,m2,rfl,hk2,hc2,hr2⟩⟩
end
theorem Il:Tryz.prog.cellsOf 72=9:=by kernel_rfl
theorem Mq:Tryz.prog.cellsOf 74=11:=by kernel_rfl
theorem Ve:Tryz.prog.cellsOf 70=1:=by kernel_rfl
theorem Zh:Tryz.prog.cellsOf 9=1:=by kernel_rfl
theorem Fw:Tryz.prog.cellsOf 3=1:=by kernel_rfl
theorem Po {α:Type}{l:List α}(h:l.length=3):∃ c0 c1 c2,l=[c0,c1,c2]:=by
 match l,h with
 | [c0,c1,c2],_=>exact ⟨c0,c1,c2,rfl⟩
theorem Afz {α:Type}{l:List α}(h:l.length=9):∃ c0 c1 c2 c3 c4 c5 c6 c7 c8,l=[c0,c1,c2,c3,c4,c5,c6,c7,c8]:=by
 match l,h with
 | [c0,c1,c2,c3,c4,c5,c6,c7,c8],_=>exact ⟨c0,c1,c2,c3,c4,c5,c6,c7,c8,rfl⟩
theorem Adu {α:Type}{l:List α}(h:l.length=11):∃ c0 c1 c2 c3 c4 c5 c6 c7 c8 c9 c10,l=[c0,c1,c2,c3,c4,c5,c6,c7,c8,c9,c10]:=by
 match l,h with
 | [c0,c1,c2,c3,c4,c5,c6,c7,c8,c9,c10],_=>exact ⟨c0,c1,c2,c3,c4,c5,c6,c7,c8,c9,c10,rfl⟩
section
variable {H:Type} {enc:TypeId×Value→H} {w:World} {base:Nat} {spare:Nat→Bool} {held:Bool}
theorem Nt {fuel:Nat}{cs:List Value}{x:DataW H×List MemPlace}(h:DataW.trod enc Tryz.prog w base spare held fuel 72 cs=some x) :
  ∃ (kd:Int) (p1 p2 p3 p4 q1 q2 q3 q4:Value),cs=[.int .u8 kd,p1,p2,p3,p4,q1,q2,q3,q4]∧∀ M,(∀ k∈x.1.weights Tryz.prog 72,k≤M)→M≤140737488355328→RawF w (.agg #[p1,p2,p3,p4])∧RawF w (.agg #[q1,q2,q3,q4]):=by
 obtain ⟨xs,n,_,rfl,hlen,hxl,hf⟩:=DataW.trod_struct Tryz.underlying72 h;rw [Il] at hlen;obtain ⟨c0,c1,c2,c3,c4,c5,c6,c7,c8,rfl⟩:=Afz hlen;obtain ⟨y0,y1,y2,rfl⟩:=Po hxl;have h0:DataW.trod enc Tryz.prog w base spare held n 70 (([c0,c1,c2,c3,c4,c5,c6,c7,c8].drop 0).take (Tryz.prog.cellsOf 70))=some y0:=hf 0 _ rfl;have h1:DataW.trod enc Tryz.prog w base spare held n 28 (([c0,c1,c2,c3,c4,c5,c6,c7,c8].drop 1).take (Tryz.prog.cellsOf 28))=some y1:=hf 1 _ rfl;have h2:DataW.trod enc Tryz.prog w base spare held n 28 (([c0,c1,c2,c3,c4,c5,c6,c7,c8].drop 5).take (Tryz.prog.cellsOf 28))=some y2:=hf 2 _ rfl;rw [Ve] at h0;rw [Dd] at h1 h2;obtain ⟨kd,e0,_,_⟩:=DataW.trod_int Tryz.underlying70 h0;have e0':[c0]=[.int .u8 kd]:=e0;simp only [List.cons.injEq,and_true] at e0';subst e0';obtain ⟨v1,v2,v3,v4,e1,f1⟩:=Ih h1;have e1':[c1,c2,c3,c4]=[v1,v2,v3,v4]:=e1;simp only [List.cons.injEq,and_true] at e1';obtain ⟨rfl,rfl,rfl,rfl⟩:=e1';obtain ⟨v5,v6,v7,v8,e2,f2⟩:=Ih h2;have e2':[c5,c6,c7,c8]=[v5,v6,v7,v8]:=e2;simp only [List.cons.injEq,and_true] at e2';obtain ⟨rfl,rfl,rfl,rfl⟩:=e2';exact ⟨kd,_,_,_,_,_,_,_,_,rfl,fun M h hM=>⟨f1 M (fun k hk=>h k (by simp [DataW.weights,Tryz.underlying72,DataW.weightsEach,hk])) hM,f2 M (fun k hk=>h k (by simp [DataW.weights,Tryz.underlying72,DataW.weightsEach,hk])) hM⟩⟩
theorem Yf {fuel:Nat}{cs:List Value}{x:DataW H×List MemPlace}(h:DataW.trod enc Tryz.prog w base spare held fuel 74 cs=some x) :
  ∃ (pn:ByteArray) (kd:Int) (p1 p2 p3 p4 q1 q2 q3 q4:Value) (co:Int),cs=[.string pn,.int .u8 kd,p1,p2,p3,p4,q1,q2,q3,q4,.int .i64 co]∧∀ M,(∀ k∈x.1.weights Tryz.prog 74,k≤M)→M≤140737488355328→pn.size≤M∧RawF w (.agg #[p1,p2,p3,p4])∧RawF w (.agg #[q1,q2,q3,q4]):=by
 obtain ⟨xs,n,_,rfl,hlen,hxl,hf⟩:=DataW.trod_struct Tryz.underlying74 h;rw [Mq] at hlen;obtain ⟨c0,c1,c2,c3,c4,c5,c6,c7,c8,c9,c10,rfl⟩:=Adu hlen;obtain ⟨y0,y1,y2,rfl⟩:=Po hxl;have h0:DataW.trod enc Tryz.prog w base spare held n 9 (([c0,c1,c2,c3,c4,c5,c6,c7,c8,c9,c10].drop 0).take (Tryz.prog.cellsOf 9))=some y0:=hf 0 _ rfl;have h1:DataW.trod enc Tryz.prog w base spare held n 72 (([c0,c1,c2,c3,c4,c5,c6,c7,c8,c9,c10].drop 1).take (Tryz.prog.cellsOf 72))=some y1:=hf 1 _ rfl;have h2:DataW.trod enc Tryz.prog w base spare held n 3 (([c0,c1,c2,c3,c4,c5,c6,c7,c8,c9,c10].drop 10).take (Tryz.prog.cellsOf 3))=some y2:=hf 2 _ rfl;rw [Zh] at h0;rw [Il] at h1;rw [Fw] at h2;obtain ⟨pn,e0,hy,_⟩:=DataW.trod_string Tryz.underlying9 h0;have e0':[c0]=[.string pn]:=e0;simp only [List.cons.injEq,and_true] at e0';subst e0';obtain ⟨kd,v1,v2,v3,v4,v5,v6,v7,v8,e1,f1⟩:=Nt h1;have e1':[c1,c2,c3,c4,c5,c6,c7,c8,c9]=[.int .u8 kd,v1,v2,v3,v4,v5,v6,v7,v8]:=e1;simp only [List.cons.injEq,and_true] at e1';obtain ⟨rfl,rfl,rfl,rfl,rfl,rfl,rfl,rfl,rfl⟩:=e1';obtain ⟨co,e2,_,_⟩:=DataW.trod_int Tryz.underlying3 h2;have e2':[c10]=[.int .i64 co]:=e2;simp only [List.cons.injEq,and_true] at e2';subst e2';exact ⟨pn,kd,_,_,_,_,_,_,_,_,co,rfl,fun M h hM=>⟨h _ (by simp [DataW.weights,Tryz.underlying74,DataW.weightsEach,hy]),f1 M (fun k hk=>h k (by simp [DataW.weights,Tryz.underlying74,DataW.weightsEach,hk])) hM⟩⟩
end
end Go.Proofs.YtlknpnommcohkaaGreatDoor
namespace Go.Proofs.YtlknpnommcohkaaGreatDoor
set_option maxRecDepth 100000
open Go Go.RowKit Go.Proofs
def cv (vs:List Value):List Value:=vs.flatMap fun v=>v.cells.toList
theorem Wy (v:Value)(vs:List Value):cv (v::vs)=v.cells.toList++cv vs:=List.flatMap_cons
theorem Acg (a b:List Value):cv (a++b)=cv a++cv b:=List.flatMap_append
theorem Pz {n:Nat}:∀ {vs:List Value},(∀ v∈vs,v.cells.size=n)→(cv vs).length=vs.length*n
 | [],_=>by simp [cv]
 | v::r,h=>by
  have ih:=Pz (vs:=r) fun y hy=>h y (List.mem_cons_of_mem _ hy)
  have h1:v.cells.toList.length=n:=by rw [Array.length_toList];exact h v (List.mem_cons_self ..)
  rw [Wy,List.length_append,ih,h1,List.length_cons,Nat.succ_mul,Nat.add_comm]
theorem Ae2 {n:Nat}{vs:List Value}(h:∀ v∈vs,v.cells.size=n){i:Nat}(hi:i<vs.length)(j:Nat)(hj:j<n):(cv vs)[i*n+j]? = vs[i].cells[j]?:=by
 have e:vs=vs.take i++vs[i]::vs.drop (i+1):=by rw [←List.drop_eq_getElem_cons hi,List.take_append_drop]
 have h1:(cv (vs.take i)).length=i*n:=by
  rw [Pz (fun v hv=>h v (List.mem_of_mem_take hv)),List.length_take,Nat.min_eq_left (by omega)]
 have hc:vs[i].cells.size=n:=h _ (List.getElem_mem hi);have hcl:vs[i].cells.toList.length=n:=by simpa using hc
 have e2:cv vs=cv (vs.take i)++(vs[i].cells.toList++cv (vs.drop (i+1))):=by
  rw [←Wy,←Acg,←e]
 rw [e2,List.getElem?_append_right (by omega),h1,List.getElem?_append_left (by omega),Nat.add_sub_cancel_left];simp
theorem Acf {w:World}{n:Nat}{a:Option Addr}{vs:List Value}(h:Row w a (cv vs))(his:∀ v∈vs,v.cells.size=n)(hn:0<n){k:Nat}(hk:k<vs.length):∃ b o,a=some ⟨b,o,none⟩∧w.rangeAt b (o+k*n) vs[k].cells.toList:=by
 obtain ⟨b,o,ha,hr⟩:=h;have hl:=Pz his;have hp:0<vs.length*n:=Nat.mul_pos (by omega) hn;have hne:cv vs≠[]:=by intro e;rw [e,List.length_nil] at hl;omega
 refine ⟨b,o,ha hne,fun j v hv=>?_⟩;have hcl:vs[k].cells.toList.length=n:=by rw [Array.length_toList];exact his _ (List.getElem_mem hk)
 have hj:j<n:=by have:=(List.getElem?_eq_some_iff.1 hv).1;omega
 have hb:k*n+j<vs.length*n:=by
  have:=Nat.mul_le_mul_right n (show k+1≤vs.length by omega);rw [Nat.succ_mul] at this;omega
 have h1:=hr (k*n+j) (by omega);have h2:=Ae2 his hk j hj;rw [List.getD_eq_getElem?_getD,h2] at h1;have h3:vs[k].cells[j]? = some v:=by simpa using hv
 rw [h3] at h1;rw [Nat.add_assoc];exact h1
structure Ls {α:Type} (n:Nat) (R:World→Value→α→Prop) (w:World) (s:Value) (os:List (α×Value)):Prop where
 at':∃ a c,s=.slice a os.length c∧os.length≤c∧Row w a (cv (os.map (·.2)))
 it:∀ x∈os,R w x.2 x.1
 sz:∀ x∈os,x.2.cells.size=n
theorem Ls.ext {α:Type}{n:Nat}{R:World→Value→α→Prop}{w w':World}{s:Value}{os:List (α×Value)}(h:Ls n R w s os)(hR:∀ v a,R w v a→R w' v a)(e:Ext w w'):Ls n R w' s os:=by
 obtain ⟨⟨a,c,h1,h2,h3⟩,hi,hz⟩:=h;exact ⟨⟨a,c,h1,h2,h3.ext e⟩,fun x hx=>hR _ _ (hi x hx),hz⟩
theorem Ls.map {α β:Type}{n:Nat}{R:World→Value→α→Prop}{S:World→Value→β→Prop}{w:World}{s:Value}{os:List (α×Value)}(h:Ls n R w s os)(f:α→β)(hR:∀ x∈os,R w x.2 x.1→S w x.2 (f x.1)):Ls n S w s (os.map fun x=>(f x.1,x.2)):=by
 obtain ⟨⟨a,c,h1,h2,h3⟩,hi,hz⟩:=h;refine ⟨⟨a,c,by rw [h1,List.length_map],by rw [List.length_map];exact h2,by rw [List.map_map];exact h3⟩,fun x hx=>?_,fun x hx=>?_⟩
 ·obtain ⟨y,hy,rfl⟩:=List.mem_map.1 hx
  exact hR y hy (hi y hy)
 ·obtain ⟨y,hy,rfl⟩:=List.mem_map.1 hx
  exact hz y hy
theorem Ls.vsz {α:Type}{n:Nat}{R:World→Value→α→Prop}{w:World}{s:Value}{os:List (α×Value)}(h:Ls n R w s os):∀ v∈os.map (·.2),v.cells.size=n:=fun v hv=>by
 obtain ⟨x,hx,rfl⟩:=List.mem_map.1 hv
 exact h.sz x hx
theorem Ls.slice {α:Type}{n:Nat}{R:World→Value→α→Prop}{w:World}{s:Value}{os:List (α×Value)}(h:Ls n R w s os):∃ a c,s=.slice a os.length c∧os.length≤c:=by
 obtain ⟨a,c,h1,h2,-⟩:=h.at';exact ⟨a,c,h1,h2⟩
theorem Ls.get {α:Type}{n:Nat}{R:World→Value→α→Prop}{w:World}{s:Value}{os:List (α×Value)}(h:Ls n R w s os)(hn:0<n){k:Nat}(hk:k<os.length):∃ b o c,s=.slice (some ⟨b,o,none⟩) os.length c∧os.length≤c∧w.rangeAt b (o+k*n) os[k].2.cells.toList∧R w os[k].2 os[k].1:=by
 obtain ⟨a,c,rfl,hc,hr⟩:=h.at';obtain ⟨b,o,rfl,h2⟩:=Acf hr h.vsz hn (k:=k) (by simpa using hk);refine ⟨b,o,c,rfl,hc,?_,h.it _ (List.getElem_mem hk)⟩;rw [List.getElem_map] at h2;exact h2
theorem Ii {α:Type}(n:Nat)(R:World→Value→α→Prop)(w:World)(a:Option Addr)(c:Nat):Ls n R w (.slice a 0 c) []:=
 ⟨⟨a,c,rfl,Nat.zero_le _,by
  cases a with
  | none=>exact Gh w
  | some p=>exact ⟨0,0,fun h=>absurd rfl h,fun j hj=>by simp [cv] at hj⟩⟩,by simp,by simp⟩
theorem Fr {w:World}{base E n m:Nat}{v:Value}{xs:List Value}(h:w.ownsRow base E n v m xs):∃ a c,v=.slice a m c∧m≤c∧Row w a xs:=by
 obtain ⟨h1,h2⟩:=h;rcases h2 with ⟨rfl,rfl⟩|⟨g,cap,cur,rfl,a2,a3,a4,a5,a6,a7⟩
 ·have:xs=[]:=List.eq_nil_of_length_eq_zero (by simpa using h1)
  subst this;exact ⟨none,0,rfl,nR _,Gh w⟩
 ·refine ⟨_,_,rfl,a4,g,0,fun _=>rfl,fun j hj=>?_⟩
  have hle:m*n≤cur.size:=by rw [a6];exact Nat.mul_le_mul_right _ a4
  have hj3:j<m*n:=by omega
  have hj2:j<cur.size:=by omega
  have e:xs.getD j undef=cur[j]:=by
   subst a7;simp [List.getD_eq_getElem?_getD,hj3,hj2]
  rw [e];simp [World.cell?,a3,hj2]
structure Lo {α:Type} (n:Nat) (E:TypeId) (R:World→Value→α→Prop) (lo:Nat) (w:World) (s:Value) (os:List (α×Value)):Prop where
 row:w.ownsRow lo E n s os.length (cv (os.map (·.2)))
 it:∀ x∈os,R w x.2 x.1
 sz:∀ x∈os,x.2.cells.size=n
theorem Lo.ls {α:Type}{n:Nat}{E:TypeId}{R:World→Value→α→Prop}{lo:Nat}{w:World}{s:Value}{os:List (α×Value)}(h:Lo n E R lo w s os):Ls n R w s os:=by
 obtain ⟨a,c,h1,h2,h3⟩:=Fr h.row;exact ⟨⟨a,c,h1,h2,h3⟩,h.it,h.sz⟩
theorem Lo.ext {α:Type}{n:Nat}{E:TypeId}{R:World→Value→α→Prop}{lo:Nat}{w w':World}{s:Value}{os:List (α×Value)}(h:Lo n E R lo w s os)(hR:∀ v a,R w v a→R w' v a)(e:Ext w w'):Lo n E R lo w' s os:=
 ⟨Ca h.row e,fun x hx=>hR _ _ (h.it x hx),h.sz⟩
theorem Fk {α:Type}(n:Nat)(E:TypeId)(R:World→Value→α→Prop)(lo:Nat)(w:World):Lo n E R lo w (.slice none 0 0) []:=⟨World.ownsRow_nil _ _ _ _,by simp,by simp⟩
theorem Aef (os:List Value)(v:Value):cv (os++[v])=cv os++v.cells.toList:=by rw [Acg];simp [cv]
theorem Lo.snoc {α:Type}{n:Nat}{E:TypeId}{R:World→Value→α→Prop}{lo:Nat}{w w':World}{s s':Value}{os:List (α×Value)}{d:α}{v:Value}(h:Lo n E R lo w s os)
  (hr:w'.ownsRow lo E n s' (os.length+1) (cv (os.map (·.2))++v.cells.toList)) (hR:∀ x∈os,R w x.2 x.1→R w' x.2 x.1) (hv:R w' v d) (hz:v.cells.size=n):Lo n E R lo w' s' (os++[(d,v)]):=by
 refine ⟨?_,fun x hx=>?_,fun x hx=>?_⟩
 ·rw [List.map_append,List.length_append,List.map_cons,List.map_nil,Aef]
  exact hr
 ·rcases List.mem_append.1 hx with hx|hx
  ·exact hR x hx (h.it x hx)
  ·rw [List.mem_singleton.1 hx]
   exact hv
 ·rcases List.mem_append.1 hx with hx|hx
  ·exact h.sz x hx
  ·rw [List.mem_singleton.1 hx]
   exact hz
theorem Qy {id:Nat}{l:List Oper}{a:Act}{w:World}{Q:Exit→Act→World→Prop}(specs:List FSpec)(hok:okFree specs.length a.tmps.size l=true)(hst:StableAll Ext specs)
  (h:freeSteps Tryz.prog l Ext w Q 0 specs l a []):(Code.region id l.toArray true).wp Tryz.prog Q a w:=Ak specs hok hst h
theorem Gr {P:Program}(w:World)(g o:Nat)(t ty:TypeId)(cs sub:Array Value)(fr:Nat×Nat)(d:TypeDesc)(hg:w.heap[g]? = some (.cells cs t fr))(hs:cs.extract o (o+sub.size)=sub)
  (hu:P.underlying ty=some d) (hd:(match d with | .struct _ | .array _ _=>true|_=>false)=true) (hi:(P.info? ty).map (·.size)=some sub.size) :
  (loadVar ty ⟨g,o,none⟩).run P w=.ok (.agg sub) w:=by
 have hl:(loadCells ⟨g,o,none⟩ sub.toList.length).run P w=.ok sub.toList.toArray w:=
  run_loadCells_list (P:=P) w ⟨g,o,none⟩ sub.toList (fun j v hv=>by
   have hadd:(⟨g,o,none⟩:Addr).add j=⟨g,o+j,none⟩:=by unfold Addr.add;split<;>simp_all
   rw [hadd,cell_of_row w g (o+j) cs t fr hg];have hv2:sub[j]? = some v:=by simpa using hv
   rw [←hs,Array.getElem?_extract] at hv2;split at hv2
   ·exact hv2
   ·cases hv2)
 cases hq:P.info? ty with
 | none=>simp [hq] at hi
 | some i=>
  have hs:i.size=sub.size:=by simpa [hq] using hi
  have hagg:(isAgg ty).run P w=.ok true w:=by
   unfold isAgg;rw [Sem.run_bind,run_underlying hu w];cases d<;>simp_all
  simp only [Array.length_toList,Array.toArray_toList] at hl;simp [loadVar,Sem.run_bind,hagg,sizeOf,typeInfo,hq,hs,hl]
theorem Ki {P:Program}{o:Oper}{a:Act}{w:World}{K:Act→World→Prop}{Q:Exit→Act→World→Prop}(ty:TypeId)(x:Operand)(ho:o.op=.load ty x)
  (g k:Nat) (hx:a.eval x=.pointer (some ⟨g,k,none⟩)) (t:TypeId) (cs sub:Array Value) (fr:Nat×Nat) (d:TypeDesc) (hg:w.heap[g]? = some (.cells cs t fr)) (hs:cs.extract k (k+sub.size)=sub)
  (hu:P.underlying ty=some d) (hd:(match d with | .struct _ | .array _ _=>true|_=>false)=true) (hi:(P.info? ty).map (·.size)=some sub.size)
  (h:K (a.put o.dst (.agg sub)) w):o.wp P a w K Q:=by
 unfold Oper.wp execOp;simp only [ho,hx,Instr.loadAt,Instr.sureAddr,Sem.run_bind,Sem.run_pure,Result.andThen_ok,Gr w g k t ty cs sub fr d hg hs hu hd hi];exact h
theorem Ap {P:Program}{ops:Array Oper}{rest:List Oper}{o:Oper}{a:Act}{w:World}{Q:Exit→Act→World→Prop}(hgd:o.guard=none)(ty:TypeId)(x:Operand)(ho:o.op=.load ty x)
  (g k:Nat) (hx:a.eval x=.pointer (some ⟨g,k,none⟩)) (t:TypeId) (cs sub:Array Value) (fr:Nat×Nat) (d:TypeDesc) (hg:w.heap[g]? = some (.cells cs t fr)) (hs:cs.extract k (k+sub.size)=sub)
  (hu:P.underlying ty=some d) (hd:(match d with | .struct _ | .array _ _=>true|_=>false)=true) (hi:(P.info? ty).map (·.size)=some sub.size)
  (h:wpList P ops Q rest (a.put o.dst (.agg sub)) w):wpList P ops Q (o::rest) a w:=
 wpList_plain hgd fun _ hK=>Ki ty x ho g k hx t cs sub fr d hg hs hu hd hi (hK _ _ h)
theorem Ag {P:Program}{ops:Array Oper}{rest:List Oper}{o:Oper}{a:Act}{w:World}{Q:Exit→Act→World→Prop}(hw:Region.wanted o (yielded ops a.tmps)=true)(ty:TypeId)(x:Operand)(ho:o.op=.load ty x)
  (g k:Nat) (hx:a.eval x=.pointer (some ⟨g,k,none⟩)) (t:TypeId) (cs sub:Array Value) (fr:Nat×Nat) (d:TypeDesc) (hg:w.heap[g]? = some (.cells cs t fr)) (hs:cs.extract k (k+sub.size)=sub)
  (hu:P.underlying ty=some d) (hd:(match d with | .struct _ | .array _ _=>true|_=>false)=true) (hi:(P.info? ty).map (·.size)=some sub.size)
  (h:wpList P ops Q rest (a.put o.dst (.agg sub)) w):wpList P ops Q (o::rest) a w:=by
 simp only [wpList];rw [if_pos hw];exact .inl (Ki ty x ho g k hx t cs sub fr d hg hs hu hd hi h)
theorem Ah {P:Program}{S:World→Value→Prop}{o:Oper}{a:Act}{W:World}{X:Prop}{c:Prop}{ic:Decidable c}(hw:c)(ty:TypeId)(x:Operand)(ho:o.op=.load ty x)
  (g k:Nat) (hx:a.eval x=.pointer (some ⟨g,k,none⟩)) (t:TypeId) (cs sub:Array Value) (fr:Nat×Nat) (d:TypeDesc) (hg:W.heap[g]? = some (.cells cs t fr)) (hs:cs.extract k (k+sub.size)=sub)
  (hu:P.underlying ty=some d) (hd:(match d with | .struct _ | .array _ _=>true|_=>false)=true) (hi:(P.info? ty).map (·.size)=some sub.size)
  (h:S W (.agg sub)):if c then Da P S ((execOp a.eval o).run P W) else X:=by
 rw [if_pos hw];unfold execOp;simp only [ho,hx,Instr.loadAt,Instr.sureAddr,Sem.run_bind,Sem.run_pure,Result.andThen_ok,Gr W g k t ty cs sub fr d hg hs hu hd hi];exact h
theorem MagO.span {w:World}{base:Nat}{a:Option Addr}{n c:Nat}{l:List Nat}(h:MagO w base (.slice a n c) l):∀ g,a.map (·.block)=some g→base≤g∧g<w.heap.size:=by
 obtain ⟨_,h|⟨g,cap,cur,e,h1,h2,_⟩⟩:=h
 ·obtain ⟨e,_⟩:=h
  cases e;intro g hg;cases hg
 ·cases e
  intro k hk;simp at hk;subst hk;exact ⟨h1,(Array.getElem?_eq_some_iff.1 h2).1⟩
theorem Aco {b:Bool}{a:Option Addr}{n c g:Nat}(h:g∈Aloof.blks (.agg #[.bool b,.slice a n c])):a.map (·.block)=some g:=by
 cases a with
 | none=>simp [Aloof.blks,Aloof.blk1,Value.cells] at h
 | some a=>simpa [Aloof.blks,Aloof.blk1,Value.cells,eq_comm] using h
theorem IntO.span {w:World}{base:Nat}{v:Value}{x:Int}(h:IntO w base v x):∀ g∈Aloof.blks v,base≤g∧g<w.heap.size:=by
 obtain ⟨b,a,n,c,rfl⟩:=h.r.shape;obtain ⟨s,e,hm⟩:=h;cases e;exact fun g hg=>hm.span g (Aco hg)
theorem Oh (b1:Bool)(a1:Option Addr)(n1 c1:Nat)(b2:Bool)(a2:Option Addr)(n2 c2:Nat):Aloof.blks (.agg #[.bool b1,.slice a1 n1 c1,.bool b2,.slice a2 n2 c2])=Aloof.blks (.agg #[.bool b1,.slice a1 n1 c1])++Aloof.blks (.agg #[.bool b2,.slice a2 n2 c2]):=by
 cases a1<;>cases a2<;>rfl
theorem FracO.span {w:World}{base:Nat}{v:Value}{q:Rat}(h:FracO w base v q):∀ g∈Aloof.blks v,base≤g∧g<w.heap.size:=by
 obtain ⟨b1,a1,n1,c1,b2,a2,n2,c2,rfl,h1,h2⟩:=h;rw [Oh];intro g hg;rcases List.mem_append.1 hg with hg|hg
 ·exact h1.span g hg
 ·exact h2.span g hg
theorem Fq {P:Program}(g k:Nat)(t:TypeId):∀ (vs:List Value) (i:Nat) (cur:Array Value) (w:World),w.heap[g]? = some (.cells cur t (0,0))→k+i+vs.length≤cur.size→(∀ v∈vs,v.oneCell'=true) →
  (storeCells ⟨g,k,none⟩ vs i).run P w=.ok () (w.setRow g (cur.toList.take (k+i)++vs++cur.toList.drop (k+i+vs.length)).toArray)
 | [],i,cur,w,hg,hl,_=>by
  have hlt:g<w.heap.size:=(Array.getElem?_eq_some_iff.1 hg).1
  have hv:w.heap[g]=.cells cur t (0,0):=(Array.getElem?_eq_some_iff.1 hg).2
  simp only [storeCells,List.append_nil,List.length_nil,Nat.add_zero,List.take_append_drop,Array.toArray_toList]
  show Result.ok () w=_
  congr 1
  unfold World.setRow
  cases w with
  | mk heap tape drawn os output=>
   congr 1
   apply Array.ext
   ·simp
   ·intro j h1 h2
    simp only [Array.getElem_modify]
    split
    ·rename_i hk;subst hk;simp at hv;simp [hv]
    ·rfl
 | v::rest,i,cur,w,hg,hl,h1=>by
  have hi:k+i<cur.size:=by simp at hl;omega
  have hadd:(⟨g,k,none⟩:Addr).add i=⟨g,k+i,none⟩:=by unfold Addr.add;split<;>simp_all
  have hcell:w.cell? ⟨g,k+i,none⟩=some cur[k+i]:=by simp [World.cell?,hg,hi]
  have hfro:w.frozen? ⟨g,k+i,none⟩=false:=by simp [World.frozen?,hg]
  have hst:(store ((⟨g,k,none⟩:Addr).add i) v).run P w=.ok () (w.setRow g (cur.setIfInBounds (k+i) v)):=by
   rw [hadd,run_store P w _ v _ (h1 v (by simp)),hcell];simp [hfro,setCell_eq_setRow w g (k+i) cur t (0,0) v hg]
  have ih:=Fq (P:=P) g k t rest (i+1) (cur.setIfInBounds (k+i) v) (w.setRow g (cur.setIfInBounds (k+i) v)) (setRow_heap w g cur _ t _ hg) (by simp at hl ⊢;omega) (fun x hx=>h1 x (by simp [hx]));simp only [storeCells,Sem.run_bind,hst,Result.andThen_ok,ih,setRow_setRow];congr 3
  have e1:(cur.setIfInBounds (k+i) v).toList.take (k+(i+1))=cur.toList.take (k+i)++[v]:=by
   rw [Array.toList_setIfInBounds,←Nat.add_assoc,List.take_succ_eq_append_getElem (by simpa using hi),List.take_set,List.set_eq_of_length_le (by rw [List.length_take];omega)];simp
  have e2:(cur.setIfInBounds (k+i) v).toList.drop (k+(i+1)+rest.length)=cur.toList.drop (k+i+(rest.length+1)):=by
   rw [Array.toList_setIfInBounds,List.drop_set_of_lt (by omega)];congr 1;omega
  rw [e1,e2];simp
theorem Ju {P:Program}(w:World)(g k:Nat)(t ty:TypeId)(old new sub:Array Value)(hg:w.heap[g]? = some (.cells old t (0,0)))(hi:(P.info? ty).map (·.size)=some sub.size)
  (hk:k+sub.size≤old.size) (hn:new=(old.toList.take k++sub.toList++old.toList.drop (k+sub.size)).toArray) (h1:sub.all (·.oneCell')=true) :
  (storeVar ty ⟨g,k,none⟩ (.agg sub)).run P w=.ok () (w.setRow g new):=by
 have:=Fq (P:=P) g k t sub.toList 0 old w hg (by simp;omega) (fun v hv=>(Array.all_eq_true_iff_forall_mem.1 h1) v (by simpa using hv));cases hq:P.info? ty with
 | none=>simp [hq] at hi
 | some i=>
  have hs:sub.size=i.size:=by simp [hq] at hi;omega
  simp only [Nat.add_zero,Array.length_toList] at this;simp [storeVar,sizeOf,typeInfo,hq,Value.cells,hs,hn,this]
theorem Bg {P:Program}{ops:Array Oper}{rest:List Oper}{o:Oper}{a:Act}{w:World}{Q:Exit→Act→World→Prop}(hgd:o.guard=none)(ty:TypeId)(x y:Operand)(ho:o.op=.store ty x y)
  (g k:Nat) (hx:a.eval x=.pointer (some ⟨g,k,none⟩)) (t:TypeId) (old new sub:Array Value) (hy:a.eval y=.agg sub) (hg:w.heap[g]? = some (.cells old t (0,0))) (hi:(P.info? ty).map (·.size)=some sub.size)
  (hk:k+sub.size≤old.size) (hn:new=(old.toList.take k++sub.toList++old.toList.drop (k+sub.size)).toArray) (h1:sub.all (·.oneCell')=true)
  (h:wpList P ops Q rest (a.put o.dst undef) (w.setRow g new)):wpList P ops Q (o::rest) a w:=
 wpList_plain hgd fun _ hK=>by
  unfold Oper.wp execOp
  simp only [ho,hx,hy,Instr.storeAt,Instr.sureAddr,Sem.run_bind,Sem.run_pure,Result.andThen_ok,Ju w g k t ty old new sub hg hi hk hn h1]
  exact hK _ _ h
structure PD where
 nm:ByteArray
 kd:Int
 p:Rat
 q:Rat
 co:Int
def Ae9 (w:World)(v:Value)(d:PD):Prop:=∃ b1 a1 n1 c1 b2 a2 n2 c2 b3 a3 n3 c3 b4 a4 n4 c4,v=.agg #[.string d.nm,.int .u8 d.kd,.bool b1,.slice a1 n1 c1,.bool b2,.slice a2 n2 c2,.bool b3,.slice a3 n3 c3,.bool b4,.slice a4 n4 c4,.int .i64 d.co]∧FracR w (.agg #[.bool b1,.slice a1 n1 c1,.bool b2,.slice a2 n2 c2]) d.p∧FracR w (.agg #[.bool b3,.slice a3 n3 c3,.bool b4,.slice a4 n4 c4]) d.q
def fm (n:Int):Nat:=floatOfInt .f64 (-1000-n)
structure Ent where
 l:Value
 n:Nat
 len:Nat

structure Chg (w w':World) (S:Nat→Prop):Prop where
 os:w'.os=w.os
 tape:w'.tape=w.tape
 output:w'.output=w.output
 size:w.heap.size≤w'.heap.size
 block:∀ k,k<w.heap.size→¬S k→w'.heap[k]? = w.heap[k]?
theorem Chg.refl (w:World)(S:Nat→Prop):Chg w w S:=⟨rfl,rfl,rfl,nR _,fun _ _ _=>rfl⟩
theorem Chg.trans {a b c:World}{S:Nat→Prop}(h:Chg a b S)(k:Chg b c S):Chg a c S:=
 ⟨k.os.trans h.os,k.tape.trans h.tape,k.output.trans h.output,nT h.size k.size,fun i hi hs=>(k.block i (Nat.lt_of_lt_of_le hi h.size) hs).trans (h.block i hi hs)⟩
theorem Chg.mono {a b:World}{S T:Nat→Prop}(h:Chg a b S)(hs:∀ k,k<a.heap.size→S k→T k):Chg a b T:=
 ⟨h.os,h.tape,h.output,h.size,fun i hi hn=>h.block i hi fun x=>hn (hs i hi x)⟩
theorem Chg.grown {a b:World}{row:Option Nat}(h:a.grownBy b row):Chg a b (fun k=>some k=row):=
 ⟨h.os,h.tape,h.output,h.size,h.block⟩
theorem Chg.ext {w w':World}{S:Nat→Prop}(h:Chg w w' S)(b:World)(hb:Ext b w)(hs:∀ k,k<b.heap.size→¬S k):Ext b w':=
 ⟨h.os.trans hb.os,h.tape.trans hb.tape,h.output.trans hb.output,nT hb.size h.size,fun k hk=>(h.block k (Nat.lt_of_lt_of_le hk hb.size) (hs k hk)).trans (hb.block k hk)⟩
theorem Chg.of_ext {w w':World}(h:Ext w w')(S:Nat→Prop):Chg w w' S:=⟨h.os,h.tape,h.output,h.size,fun k hk _=>h.block k hk⟩
def Blocks (es:List Ent)(g:Nat):Prop:=∃ i,∃ h:i<es.length,es[i].l.ownBlock=some g
def part (m:Value)(xs:List Value)(k:Nat):List Value:=List.replicate k m++xs.drop k
def eqI (b b':Bool)(l l':List Nat):Bool:=decide (b=b'∧l=l')
theorem Jk (b:Bool)(l:List Nat):eqI b b l l=true:=by simp [eqI]
def RawL (w:World)(b1:Bool)(a1:Option Addr)(l1:List Nat)(c1:Nat)(b2:Bool)(a2:Option Addr)(l2:List Nat)(c2:Nat):Prop:=
 l1.length≤4294967296∧l2.length≤4294967296∧AnyR w (.agg #[.bool b1,.slice a1 l1.length c1]) b1 l1∧AnyR w (.agg #[.bool b2,.slice a2 l2.length c2]) b2 l2
theorem RawL.ext {w w':World}{b1:Bool}{a1:Option Addr}{l1:List Nat}{c1:Nat}{b2:Bool}{a2:Option Addr}{l2:List Nat}{c2:Nat}(h:RawL w b1 a1 l1 c1 b2 a2 l2 c2)(e:Ext w w'):RawL w' b1 a1 l1 c1 b2 a2 l2 c2:=⟨h.1,h.2.1,h.2.2.1.ext e,h.2.2.2.ext e⟩
theorem Gg (b1:Bool)(a1:Option Addr)(l1:List Nat)(c1:Nat)(b2:Bool)(a2:Option Addr)(l2:List Nat)(c2:Nat)(b1':Bool)(a1':Option Addr)(l1':List Nat)(c1':Nat)(b2':Bool)(a2':Option Addr)(l2':List Nat)(c2':Nat)(w:World)(h:RawL w b1 a1 l1 c1 b2 a2 l2 c2)(h':RawL w b1' a1' l1' c1' b2' a2' l2' c2') :
  Calls Tryz.prog 47 #[.agg #[.bool b1,.slice a1 l1.length c1,.bool b2,.slice a2 l2.length c2],.agg #[.bool b1',.slice a1' l1'.length c1',.bool b2',.slice a2' l2'.length c2']] w fun e w'=>e=.returned (.bool (eqI b1 b1' l1 l1'&&eqI b2 b2' l2 l2'))∧Ext w w':=by
 have k1:=mK (fun W (e:Ext w W)=>Nk _ _ b1 b1' l1 l1' W h.1 h'.1 (h.2.2.1.ext e) (h'.2.2.1.ext e));have k2:=mK (fun W (e:Ext w W)=>Nk _ _ b2 b2' l2 l2' W h.2.1 h'.2.1 (h.2.2.2.ext e) (h'.2.2.2.ext e));clear h h';change Hid (∀ W (e:Ext w W),Calls _ _ _ _ fun e w'=>e=.returned (.bool (eqI b1 b1' l1 l1'))∧_) at k1
 change Hid (∀ W (e:Ext w W),Calls _ _ _ _ fun e w'=>e=.returned (.bool (eqI b2 b2' l2 l2'))∧_) at k2
 generalize eqI b1 b1' l1 l1'=r1 at *;generalize eqI b2 b2' l2 l2'=r2 at *;generalize l1.length=n1 at *;generalize l2.length=n2 at *;generalize l1'.length=n1' at *;generalize l2'.length=n2' at *;obtain ⟨wb,hwb⟩:=nmE ((w.alloc (.cells #[.bool b1,.slice a1 n1 c1,.bool b2,.slice a2 n2 c2] 28)).alloc (.cells #[.bool b1',.slice a1' n1' c1',.bool b2',.slice a2' n2' c2'] 28));have hE:=mK (aLe2 hwb);have z0:=mK (aL20 hwb);have z1:=mK (aL21 hwb);replace hwb:=mK hwb;go_enter Tryz.func47,Tryz.ntmps47;go_wp2_with fail;rw [←hwb.out];clear hwb;refine (k1.out _ hE.out).mono ?_;rintro e w1 ⟨rfl,hE1⟩;replace z0:=mK (hE1.blk z0.out);replace z1:=mK (hE1.blk z1.out);replace hE:=mK (hE.out.trans hE1);clear hE1;cases r1
 ·go_wp2_with fail
  go_ret;exact ⟨rfl,hE.out⟩
 ·have y2:w1.cell? ⟨w.heap.size,2,none⟩=some (.bool b2):=Al z0.out 2
  have x2:w1.cell? ⟨w.heap.size+1,2,none⟩=some (.bool b2'):=Al z1.out 2;have y3:w1.cell? ⟨w.heap.size,3,none⟩=some (.slice a2 n2 c2):=Al z0.out 3;have x3:w1.cell? ⟨w.heap.size+1,3,none⟩=some (.slice a2' n2' c2'):=Al z1.out 3;go_wp2_with fail;clear x2 y2 x3 y3;refine (k2.out _ hE.out).mono ?_;rintro e w2 ⟨rfl,hE2⟩;replace z0:=mK (hE2.blk z0.out);replace z1:=mK (hE2.blk z1.out);replace hE:=mK (hE.out.trans hE2);clear hE2;go_wp2_with fail;go_ret;exact ⟨rfl,hE.out⟩
theorem Ic (kd kd':Int)(b1:Bool)(a1:Option Addr)(l1:List Nat)(c1:Nat)(b2:Bool)(a2:Option Addr)(l2:List Nat)(c2:Nat)(b3:Bool)(a3:Option Addr)(l3:List Nat)(c3:Nat)(b4:Bool)(a4:Option Addr)(l4:List Nat)(c4:Nat)(b1':Bool)(a1':Option Addr)(l1':List Nat)(c1':Nat)(b2':Bool)(a2':Option Addr)(l2':List Nat)(c2':Nat)(b3':Bool)(a3':Option Addr)(l3':List Nat)(c3':Nat)(b4':Bool)(a4':Option Addr)(l4':List Nat)(c4':Nat)(w:World)(h1:RawL w b1 a1 l1 c1 b2 a2 l2 c2)(h2:RawL w b3 a3 l3 c3 b4 a4 l4 c4)(h1':RawL w b1' a1' l1' c1' b2' a2' l2' c2')(h2':RawL w b3' a3' l3' c3' b4' a4' l4' c4') :
  Calls Tryz.prog 99 #[.agg #[.int .u8 kd,.bool b1,.slice a1 l1.length c1,.bool b2,.slice a2 l2.length c2,.bool b3,.slice a3 l3.length c3,.bool b4,.slice a4 l4.length c4],.agg #[.int .u8 kd',.bool b1',.slice a1' l1'.length c1',.bool b2',.slice a2' l2'.length c2',.bool b3',.slice a3' l3'.length c3',.bool b4',.slice a4' l4'.length c4']] w fun e w'=>e=.returned (.bool ((kd==kd')&&(eqI b1 b1' l1 l1'&&eqI b2 b2' l2 l2'&&(eqI b3 b3' l3 l3'&&eqI b4 b4' l4 l4'))))∧Ext w w':=by
 have k1:=mK (fun W (e:Ext w W)=>Gg b1 a1 l1 c1 b2 a2 l2 c2 b1' a1' l1' c1' b2' a2' l2' c2' W (h1.ext e) (h1'.ext e));have k2:=mK (fun W (e:Ext w W)=>Gg b3 a3 l3 c3 b4 a4 l4 c4 b3' a3' l3' c3' b4' a4' l4' c4' W (h2.ext e) (h2'.ext e));clear h1 h2 h1' h2';generalize (eqI b1 b1' l1 l1'&&eqI b2 b2' l2 l2')=r1 at *;generalize (eqI b3 b3' l3 l3'&&eqI b4 b4' l4 l4')=r2 at *;generalize l1.length=n1 at *;generalize l1'.length=n1' at *;generalize l2.length=n2 at *;generalize l2'.length=n2' at *;generalize l3.length=n3 at *;generalize l3'.length=n3' at *;generalize l4.length=n4 at *;generalize l4'.length=n4' at *;obtain ⟨wb,hwb⟩:=nmE ((w.alloc (.cells #[.int .u8 kd,.bool b1,.slice a1 n1 c1,.bool b2,.slice a2 n2 c2,.bool b3,.slice a3 n3 c3,.bool b4,.slice a4 n4 c4] 72)).alloc (.cells #[.int .u8 kd',.bool b1',.slice a1' n1' c1',.bool b2',.slice a2' n2' c2',.bool b3',.slice a3' n3' c3',.bool b4',.slice a4' n4' c4'] 72));have hE:=mK (aLe2 hwb);have z0:=mK (aL20 hwb);have z1:=mK (aL21 hwb);replace hwb:=mK hwb;obtain ⟨rk,hrk⟩:=nmE (kd==kd');rw [←hrk];cases rk
 ·have hne:(kd==kd')=false:=hrk.symm
  clear hrk;go_enter Tryz.func99,Tryz.ntmps99;go_wp2_with fail;rw [←hwb.out];go_ret;exact ⟨rfl,hE.out⟩
 have hkk:kd=kd':=by simpa using hrk.symm
 subst hkk;clear hrk;go_enter Tryz.func99,Tryz.ntmps99;go_wp2_with fail;rw [←hwb.out];clear hwb;refine (k1.out _ hE.out).mono ?_;rintro e w1 ⟨rfl,hE1⟩;replace z0:=mK (hE1.blk z0.out);replace z1:=mK (hE1.blk z1.out);replace hE:=mK (hE.out.trans hE1);clear hE1;cases r1
 ·go_wp2_with fail
  go_ret;exact ⟨rfl,hE.out⟩
 ·have y5:w1.cell? ⟨w.heap.size,5,none⟩=some (.bool b3):=Al z0.out 5
  have x5:w1.cell? ⟨w.heap.size+1,5,none⟩=some (.bool b3'):=Al z1.out 5;have y6:w1.cell? ⟨w.heap.size,6,none⟩=some (.slice a3 n3 c3):=Al z0.out 6;have x6:w1.cell? ⟨w.heap.size+1,6,none⟩=some (.slice a3' n3' c3'):=Al z1.out 6;have y7:w1.cell? ⟨w.heap.size,7,none⟩=some (.bool b4):=Al z0.out 7;have x7:w1.cell? ⟨w.heap.size+1,7,none⟩=some (.bool b4'):=Al z1.out 7;have y8:w1.cell? ⟨w.heap.size,8,none⟩=some (.slice a4 n4 c4):=Al z0.out 8;have x8:w1.cell? ⟨w.heap.size+1,8,none⟩=some (.slice a4' n4' c4'):=Al z1.out 8;go_wp2_with fail;clear x5 y5 x6 y6 x7 y7 x8 y8;refine (k2.out _ hE.out).mono ?_;rintro e w2 ⟨rfl,hE2⟩;replace z0:=mK (hE2.blk z0.out);replace z1:=mK (hE2.blk z1.out);replace hE:=mK (hE.out.trans hE2);clear hE2;go_wp2_with fail;go_ret;exact ⟨rfl,hE.out⟩
theorem Th (nm nm':ByteArray)(kd kd' co co':Int)(b1:Bool)(a1:Option Addr)(l1:List Nat)(c1:Nat)(b2:Bool)(a2:Option Addr)(l2:List Nat)(c2:Nat)(b3:Bool)(a3:Option Addr)(l3:List Nat)(c3:Nat)(b4:Bool)(a4:Option Addr)(l4:List Nat)(c4:Nat)(b1':Bool)(a1':Option Addr)(l1':List Nat)(c1':Nat)(b2':Bool)(a2':Option Addr)(l2':List Nat)(c2':Nat)(b3':Bool)(a3':Option Addr)(l3':List Nat)(c3':Nat)(b4':Bool)(a4':Option Addr)(l4':List Nat)(c4':Nat)(w:World)(h1:RawL w b1 a1 l1 c1 b2 a2 l2 c2)(h2:RawL w b3 a3 l3 c3 b4 a4 l4 c4)(h1':RawL w b1' a1' l1' c1' b2' a2' l2' c2')(h2':RawL w b3' a3' l3' c3' b4' a4' l4' c4') :
  Calls Tryz.prog 146 #[.agg #[.string nm,.int .u8 kd,.bool b1,.slice a1 l1.length c1,.bool b2,.slice a2 l2.length c2,.bool b3,.slice a3 l3.length c3,.bool b4,.slice a4 l4.length c4,.int .i64 co],.agg #[.string nm',.int .u8 kd',.bool b1',.slice a1' l1'.length c1',.bool b2',.slice a2' l2'.length c2',.bool b3',.slice a3' l3'.length c3',.bool b4',.slice a4' l4'.length c4',.int .i64 co']] w fun e w'=>e=.returned (.bool ((nm.toList==nm'.toList)&&((kd==kd')&&(eqI b1 b1' l1 l1'&&eqI b2 b2' l2 l2'&&(eqI b3 b3' l3 l3'&&eqI b4 b4' l4 l4')))&&(co==co')))∧Ext w w':=by
 have k1:=mK (fun W (e:Ext w W)=>Ic kd kd' b1 a1 l1 c1 b2 a2 l2 c2 b3 a3 l3 c3 b4 a4 l4 c4 b1' a1' l1' c1' b2' a2' l2' c2' b3' a3' l3' c3' b4' a4' l4' c4' W (h1.ext e) (h2.ext e) (h1'.ext e) (h2'.ext e));clear h1 h2 h1' h2';generalize ((kd==kd')&&(eqI b1 b1' l1 l1'&&eqI b2 b2' l2 l2'&&(eqI b3 b3' l3 l3'&&eqI b4 b4' l4 l4')))=r1 at *;generalize l1.length=n1 at *;generalize l1'.length=n1' at *;generalize l2.length=n2 at *;generalize l2'.length=n2' at *;generalize l3.length=n3 at *;generalize l3'.length=n3' at *;generalize l4.length=n4 at *;generalize l4'.length=n4' at *;obtain ⟨wb,hwb⟩:=nmE ((w.alloc (.cells #[.string nm,.int .u8 kd,.bool b1,.slice a1 n1 c1,.bool b2,.slice a2 n2 c2,.bool b3,.slice a3 n3 c3,.bool b4,.slice a4 n4 c4,.int .i64 co] 74)).alloc (.cells #[.string nm',.int .u8 kd',.bool b1',.slice a1' n1' c1',.bool b2',.slice a2' n2' c2',.bool b3',.slice a3' n3' c3',.bool b4',.slice a4' n4' c4',.int .i64 co'] 74));have hE:=mK (aLe2 hwb);have z0:=mK (aL20 hwb);have z1:=mK (aL21 hwb);replace hwb:=mK hwb;obtain ⟨rk,hrk⟩:=nmE (nm.toList==nm'.toList);rw [←hrk];cases rk
 ·have hne:(nm.toList==nm'.toList)=false:=hrk.symm
  clear hrk;go_enter Tryz.func146,Tryz.ntmps146;go_wp2_with fail;rw [←hwb.out];go_ret;exact ⟨rfl,hE.out⟩
 have hkk:(nm.toList==nm'.toList)=true:=hrk.symm;clear hrk;go_enter Tryz.func146,Tryz.ntmps146;go_wp2_with fail;rw [←hwb.out];clear hwb;refine (k1.out _ hE.out).mono ?_;rintro e w1 ⟨rfl,hE1⟩;replace z0:=mK (hE1.blk z0.out);replace z1:=mK (hE1.blk z1.out);replace hE:=mK (hE.out.trans hE1);clear hE1;cases r1
 ·go_wp2_with fail
  go_ret;exact ⟨rfl,hE.out⟩
 ·have y10:w1.cell? ⟨w.heap.size,10,none⟩=some (.int .i64 co):=Al z0.out 10
  have x10:w1.cell? ⟨w.heap.size+1,10,none⟩=some (.int .i64 co'):=Al z1.out 10;go_wp2_with fail;go_ret;exact ⟨rfl,hE.out⟩
end Go.Proofs.YtlknpnommcohkaaGreatDoor
