/-
  proof's reader: an element is taken. A proof in memory of its own, as it is read. proof.Encode: proofs that a ray leaves.
-/
import Derived.Test.YtlknpnommcohkaaGreatDoorKAM
import Derived.Test.YtlknpnommcohkaaGreatDoorKAE
import Derived.Test.YtlknpnommcohkaaGreatDoorKAI
import Derived.Test.YtlknpnommcohkaaGreatDoorKAF
import Derived.Test.YtlknpnommcohkaaGreatDoorKAG
set_option maxHeartbeats 6400000
namespace Go.Proofs.YtlknpnommcohkaaGreatDoor
set_option maxRecDepth 100000
open Go Go.RowKit Go.Proofs
theorem FracO.chR {w w':World}{base rp:Nat}{v:Value}{q:Rat}(h:FracO w base v q)(c:Chg w w' (· = rp))(hr:rp<base):FracO w' base v q:=
 h.near fun g hg=>c.block g (h.span g hg).2 (by have:=(h.span g hg).1;omega)
theorem Ac0 {R:WL}(h:Fm (R.headD [])=none):tE R=none:=by
 cases R with
 | nil=>rfl
 | cons x t=>
  have h':Fm x=none:=h;simp [tE,h']
theorem tE_0 {x:List UInt8}{K:Int}(h:Fm x=some K)(hn:Ep K=0)(t:WL):tE (x::t)=some (⟨K,0,0⟩,t):=by
 simp [tE,h,hn,tFs]
theorem tE_1 {x:List UInt8}{K:Int}(h:Fm x=some K)(hn:Ep K=1)(t:WL):tE (x::t)=(tF t).map fun y=>(⟨K,y.1,0⟩,y.2):=by
 simp only [tE,h,hn,Option.bind_some,tFs];cases tF t with
 | none=>rfl
 | some y=>rfl
theorem tE_2 {x:List UInt8}{K:Int}(h:Fm x=some K)(hn:Ep K=2)(t:WL):tE (x::t)=(tF t).bind fun y=>(tF y.2).map fun z=>(⟨K,y.1,z.1⟩,z.2):=by
 simp only [tE,h,hn,Option.bind_some,tFs];cases tF t with
 | none=>rfl
 | some y=>
  simp only [Option.bind_some];cases tF y.2 with
  | none=>rfl
  | some z=>rfl
def TkE (rp:Nat)(R:WL)(bad:Bool)(w:World)(e:Ending)(w':World):Prop:=
 ∃ (kd:Int) (p q:FV) (j:Nat),e=.returned (.agg #[.int .u8 kd,.bool p.b1,.slice p.a1 p.n1 p.c1,.bool p.b2,.slice p.a2 p.n2 p.c2,.bool q.b1,.slice q.a1 q.n1 q.c1,.bool q.b2,.slice q.a2 q.n2 q.c2])∧RdS rp (R.tail.drop j) (bad || !(tE R).isSome) w'∧Chg w w' (· = rp) ∧
  ∀ x r,tE R=some (x,r)→r=R.tail.drop j∧kd=x.kd∧FracO w' w.heap.size (.agg #[.bool p.b1,.slice p.a1 p.n1 p.c1,.bool p.b2,.slice p.a2 p.n2 p.c2]) x.p∧FracO w' w.heap.size (.agg #[.bool q.b1,.slice q.a1 q.n1 q.c1,.bool q.b2,.slice q.a2 q.n2 q.c2]) x.q
theorem Ac9 (rp:Nat)(R:WL)(bad:Bool)(w:World)(h:RdS rp R bad w)(hk:Fm (R.headD [])=none) :
  Calls Tryz.prog 38 #[.pointer (some ⟨rp,0,none⟩)] w (TkE rp R bad w):=by
 have hrp:=h.lt;have KN:=mK (fun W=>Fa W);obtain ⟨w1,hw1⟩:=nmE (w.alloc (.cells #[.int .u8 0,.bool false,.slice none 0 0,.bool false,.slice none 0 0,.bool false,.slice none 0 0,.bool false,.slice none 0 0] 72));have hE1:=mK (show Ext w w1 by rw [hw1];exact (xR w).al _);have z1:=mK (aL10 hw1);replace hw1:=mK hw1;have hh:=mK h;obtain ⟨X,hX⟩:=nmE (R.headD []);obtain ⟨XB,hXB⟩:∃ XB:ByteArray,XB=⟨X.toArray⟩:=⟨_,rfl⟩
 have hXl:XB.toList=X:=by rw [ByteArray.toList_eq,hXB]
 have KW:=fun W (e:Ext w W)=>Ej rp R bad W (h.ext e);rw [←hX,←hXB] at KW;have hN:=Ac0 hk;unfold TkE;rw [hN];rw [←hX] at hk
 have n1:(XB.toList==[115,112,97,99,101])=false:=by
  rw [hXl,beq_eq_false_iff_ne];rintro rfl;revert hk;decide
 have n2:(XB.toList==[108,101,110,115])=false:=by
  rw [hXl,beq_eq_false_iff_ne];rintro rfl;revert hk;decide
 have n3:(XB.toList==[115,108,97,98])=false:=by
  rw [hXl,beq_eq_false_iff_ne];rintro rfl;revert hk;decide
 have n4:(XB.toList==[115,117,114,102,97,99,101])=false:=by
  rw [hXl,beq_eq_false_iff_ne];rintro rfl;revert hk;decide
 have n5:(XB.toList==[102,108,105,112])=false:=by
  rw [hXl,beq_eq_false_iff_ne];rintro rfl;revert hk;decide
 replace KW:=mK KW;clear hX hXB hXl hk hN h;go_enter Tryz.func38,Tryz.ntmps38;have tok:Tok 0:=.mk _
 go_wp2_with (first
  | (replace tok:Tok 1:=nxT 0 tok;go_at_call 87;rw [←hw1.out];refine (KN.out _).mono ?_;rintro e w2 ⟨f1,rfl,hx2,hf1⟩;(replace hf1:=mK hf1);(replace hx2:=mK hx2))
  | ((replace tok:Tok 2:=nxT 1 tok;go_at_call 87;refine (KN.out _).mono ?_;rintro e w3 ⟨f2,rfl,hx3,hf2⟩);((obtain ⟨w4,hw4⟩:=nmE (w3.alloc (.cells #[.int .u8 0,.bool f1.b1,.slice f1.a1 f1.n1 f1.c1,.bool f1.b2,.slice f1.a2 f1.n2 f1.c2,.bool f2.b1,.slice f2.a1 f2.n1 f2.c1,.bool f2.b2,.slice f2.a2 f2.n2 f2.c2] 72))));((have hx4:Ext w3 w4:=by rw [hw4];exact (xR w3).al _));((have zS:=mK (aL10 hw4)));((have hE4:=mK (hE1.out.trans (hx2.out.trans (hx3.trans hx4)))));((have zT:=mK ((hx2.out.trans (hx3.trans hx4)).blk z1.out)));((have g1:=mK (((hf1.out.ext (hx3.trans hx4)).mono hE1.out.size))));((have g2:=mK (((hf2.ext hx4).mono (nT hE1.out.size hx2.out.size)))));((have hS3:=mK (show w.heap.size<w3.heap.size from Nat.lt_of_lt_of_le (Array.getElem?_eq_some_iff.1 z1.out).1 (nT hx2.out.size hx3.size))));((replace hw4:=mK hw4);clear hx2 hx3 hx4 hf1 hf2))
  | ((replace tok:Tok 3:=nxT 2 tok;go_at_call 34;rw [←hw4.out];refine (KW.out _ hE4.out).mono ?_;rintro e w5 ⟨rfl,hR5,hc5⟩);((have hC5:=mK ((Chg.of_ext hE4.out _).trans hc5)));((have zS5:=mK ((hc5.block _ (Array.getElem?_eq_some_iff.1 zS.out).1 (by have:=hS3.out;omega)).trans zS.out)));((have zT5:=mK ((hc5.block _ (Array.getElem?_eq_some_iff.1 zT.out).1 (by omega)).trans zT.out)));((have g15:=mK (g1.out.chR hc5 hrp));(have g25:=mK (g2.out.chR hc5 hrp)));((replace hR5:=mK hR5);clear zS zT g1 g2 hc5))
  | ((replace tok:Tok 4:=nxT 3 tok);((obtain ⟨s,hs1,hs2⟩:=hR5.out.badE));((obtain ⟨-,y1⟩:=ceL1 hs1));((have fz:w5.frozen? ⟨rp,1,none⟩=false:=Lib.frozen_of_heap hs1 1));((have e1:=mK (fun v=>show w5.setCell ⟨rp,1,none⟩ v=w5.setRow rp #[s,v] from (setCell_eq_setRow w5 rp 1 _ _ _ v hs1).trans rfl)));((have z6:=mK (fun v=>show (w5.setRow rp #[s,v]).heap[w3.heap.size]? = some (.cells #[.int .u8 0,.bool f1.b1,.slice f1.a1 f1.n1 f1.c1,.bool f1.b2,.slice f1.a2 f1.n2 f1.c2,.bool f2.b1,.slice f2.a1 f2.n1 f2.c1,.bool f2.b2,.slice f2.a2 f2.n2 f2.c2] 72 (0,0)) from (setRow_other _ _ _ _ (by have:=hS3.out;omega)).trans zS5.out)));((have t6:=mK (fun v=>show (w5.setRow rp #[s,v]).heap[w.heap.size]? = some (.cells #[.int .u8 0,.bool false,.slice none 0 0,.bool false,.slice none 0 0,.bool false,.slice none 0 0,.bool false,.slice none 0 0] 72 (0,0)) from (setRow_other _ _ _ _ (by omega)).trans zT5.out)));((replace hs2:=mK hs2);clear hs1))
  | (replace tok:Tok 5:=nxT 4 tok;rw [e1.out];refine wpList_load_row (by rfl) 72 (.tmp 3) rfl (w3.heap.size) rfl 72 #[.int .u8 0,.bool f1.b1,.slice f1.a1 f1.n1 f1.c1,.bool f1.b2,.slice f1.a2 f1.n2 f1.c2,.bool f2.b1,.slice f2.a1 f2.n1 f2.c1,.bool f2.b2,.slice f2.a2 f2.n2 f2.c2] (0,0) _ (z6.out _) Tryz.underlying72 rfl (by kernel_rfl) ?_)
  | ((have _t:Tok 5:=tok);clear _t;clear tok;refine wpList_store_row rfl 72 (.tmp 2) (.tmp 45) rfl (w.heap.size) #[.int .u8 0,.bool f1.b1,.slice f1.a1 f1.n1 f1.c1,.bool f1.b2,.slice f1.a2 f1.n2 f1.c2,.bool f2.b1,.slice f2.a1 f2.n1 f2.c1,.bool f2.b2,.slice f2.a2 f2.n2 f2.c2] rfl rfl 72 _ (t6.out _) (by kernel_rfl) rfl (by kernel_rfl) ?_))
 refine bodyPost_ret (results_cell_row rfl _ _ w.heap.size 72 #[.int .u8 0,.bool f1.b1,.slice f1.a1 f1.n1 f1.c1,.bool f1.b2,.slice f1.a2 f1.n2 f1.c2,.bool f2.b1,.slice f2.a1 f2.n1 f2.c1,.bool f2.b2,.slice f2.a2 f2.n2 f2.c2] (0,0) _ rfl (setRow_heap _ _ _ _ _ _ (t6.out _)) Tryz.underlying72 rfl (by kernel_rfl)) rfl ⟨0,f1,f2,0,rfl,?_,?_,fun x r h=>by cases h⟩
 ·have:=(hs2.out _ (xR _) true).set (t6.out _) (by decide) (by omega) #[.int .u8 0,.bool f1.b1,.slice f1.a1 f1.n1 f1.c1,.bool f1.b2,.slice f1.a2 f1.n2 f1.c2,.bool f2.b1,.slice f2.a1 f2.n1 f2.c1,.bool f2.b2,.slice f2.a2 f2.n2 f2.c2]
  simpa using this
 ·refine ((hC5.out.mono (T:=fun k=>k=rp∨k=w.heap.size) fun k _ hk=>.inl hk).trans (((Aq w5 rp _).mono fun k _ hk=>.inl hk).trans ((Aq _ w.heap.size _).mono fun k _ hk=>.inr hk))).mono fun k hk h=>?_
  rcases h with h|h
  ·exact h
  ·omega
theorem FracO.stE {w:World}{base g:Nat}{v:Value}{q:Rat}{old:Array Value}(h:FracO w base v q)(hg:w.heap[g]? = some (.cells old 72 (0,0)))(cs:Array Value):FracO (w.setRow g cs) base v q:=h.row_type hg (by decide) cs
theorem Agv (rp:Nat)(t:WL)(bad:Bool)(w:World)(h:RdS rp (Bm 1::t) bad w)(hs:∀ x∈t,x.length≤65536)(hm:∀ W,Chg w W (· = rp)→Max0 W) :
  Calls Tryz.prog 38 #[.pointer (some ⟨rp,0,none⟩)] w (TkE rp (Bm 1::t) bad w):=by
 have hrp:=h.lt;have KN:=mK (fun W=>Fa W);obtain ⟨w1,hw1⟩:=nmE (w.alloc (.cells #[.int .u8 0,.bool false,.slice none 0 0,.bool false,.slice none 0 0,.bool false,.slice none 0 0,.bool false,.slice none 0 0] 72));have hE1:=mK (show Ext w w1 by rw [hw1];exact (xR w).al _);have z1:=mK (aL10 hw1);replace hw1:=mK hw1;have hh:=mK h;have KW:Hid (∀ W,Ext w W→Calls Tryz.prog 34 #[.pointer (some ⟨rp,0,none⟩)] W fun e w'=>e=.returned (.string ⟨#[115,112,97,99,101]⟩)∧RdS rp t bad w'∧Chg W w' (· = rp)):=fun W e=>(Ej rp _ bad W (h.ext e)).mono fun e w' k=>⟨k.1,by simpa using k.2.1,k.2.2⟩
 have KF:=mK (fun W (hR:RdS rp t bad W) hm=>Ft rp t bad W hR hs hm);have hE:=tE_1 (x:=Bm 1) (K:=1) (by decide) (by decide) t;unfold TkE;rw [hE];have hM:=mK hm;clear h hs hm hE;go_enter Tryz.func38,Tryz.ntmps38;have tok:Tok 0:=.mk _
 go_wp2_with (first
  | (replace tok:Tok 1:=nxT 0 tok;go_at_call 87;rw [←hw1.out];refine (KN.out _).mono ?_;rintro e w2 ⟨f1,rfl,hx2,hf1⟩;(replace hf1:=mK hf1);(replace hx2:=mK hx2))
  | ((replace tok:Tok 2:=nxT 1 tok;go_at_call 87;refine (KN.out _).mono ?_;rintro e w3 ⟨f2,rfl,hx3,hf2⟩);((obtain ⟨w4,hw4⟩:=nmE (w3.alloc (.cells #[.int .u8 0,.bool f1.b1,.slice f1.a1 f1.n1 f1.c1,.bool f1.b2,.slice f1.a2 f1.n2 f1.c2,.bool f2.b1,.slice f2.a1 f2.n1 f2.c1,.bool f2.b2,.slice f2.a2 f2.n2 f2.c2] 72))));((have hx4:Ext w3 w4:=by rw [hw4];exact (xR w3).al _));((have zS:=mK (aL10 hw4)));((have hE4:=mK (hE1.out.trans (hx2.out.trans (hx3.trans hx4)))));((have zT:=mK ((hx2.out.trans (hx3.trans hx4)).blk z1.out)));((have g1:=mK (((hf1.out.ext (hx3.trans hx4)).mono hE1.out.size))));((have g2:=mK (((hf2.ext hx4).mono (nT hE1.out.size hx2.out.size)))));((have hS3:=mK (show w.heap.size<w3.heap.size from Nat.lt_of_lt_of_le (Array.getElem?_eq_some_iff.1 z1.out).1 (nT hx2.out.size hx3.size))));((replace hw4:=mK hw4);clear hx2 hx3 hx4 hf1 hf2))
  | ((replace tok:Tok 3:=nxT 2 tok;go_at_call 34;rw [←hw4.out];refine (KW.out _ hE4.out).mono ?_;rintro e w5 ⟨rfl,hR5,hc5⟩);((have hC5:=mK ((Chg.of_ext hE4.out _).trans hc5)));((have zS5:=mK ((hc5.block _ (Array.getElem?_eq_some_iff.1 zS.out).1 (by have:=hS3.out;omega)).trans zS.out)));((have zT5:=mK ((hc5.block _ (Array.getElem?_eq_some_iff.1 zT.out).1 (by omega)).trans zT.out)));((have g15:=mK (g1.out.chR hc5 hrp));(have g25:=mK (g2.out.chR hc5 hrp)));((replace hR5:=mK hR5);clear zS zT g1 g2 hc5))
  | ((replace tok:Tok 4:=nxT 3 tok;go_at_call 35;refine (KF.out _ hR5.out (fun W hW=>hM.out W (hC5.out.trans hW))).mono ?_;rintro e w6 ⟨f,rfl,hR6,hc6,hf6⟩);((have z6:=(hc6.block _ (Array.getElem?_eq_some_iff.1 zS5.out).1 (by have:=hS3.out;omega)).trans zS5.out));((have t6:=mK ((hc6.block _ (Array.getElem?_eq_some_iff.1 zT5.out).1 (by omega)).trans zT5.out)));((have hl5:=hC5.out.size));((have g26:=mK (g25.out.chR hc6 hrp)));((obtain ⟨y0,-⟩:=ceL1 z6));((have fz:w6.frozen? ⟨w3.heap.size,0,none⟩=false:=Lib.frozen_of_heap z6 0));((have e1:=mK (fun v=>show w6.setCell ⟨w3.heap.size,0,none⟩ v=w6.setRow w3.heap.size #[v,.bool f1.b1,.slice f1.a1 f1.n1 f1.c1,.bool f1.b2,.slice f1.a2 f1.n2 f1.c2,.bool f2.b1,.slice f2.a1 f2.n1 f2.c1,.bool f2.b2,.slice f2.a2 f2.n2 f2.c2] from (setCell_eq_setRow w6 w3.heap.size 0 _ _ _ v z6).trans rfl)));((replace z6:=mK z6);(replace hR6:=mK hR6);(have hC6:=mK (hC5.out.trans hc6));(have hf6':=mK (fun x r hx=>(hf6 x r hx).mono hl5));clear hc6 hf6 hl5))
  | (replace tok:Tok 5:=nxT 4 tok;rw [e1.out];refine Bg rfl 28 (.tmp 17) (.tmp 15) rfl w3.heap.size 1 rfl 72 #[.int .u8 1,.bool f1.b1,.slice f1.a1 f1.n1 f1.c1,.bool f1.b2,.slice f1.a2 f1.n2 f1.c2,.bool f2.b1,.slice f2.a1 f2.n1 f2.c1,.bool f2.b2,.slice f2.a2 f2.n2 f2.c2] #[.int .u8 1,.bool f.b1,.slice f.a1 f.n1 f.c1,.bool f.b2,.slice f.a2 f.n2 f.c2,.bool f2.b1,.slice f2.a1 f2.n1 f2.c1,.bool f2.b2,.slice f2.a2 f2.n2 f2.c2] #[.bool f.b1,.slice f.a1 f.n1 f.c1,.bool f.b2,.slice f.a2 f.n2 f.c2] rfl (setRow_heap _ _ _ _ _ _ z6.out) (by kernel_rfl) (by simp) (by kernel_rfl) (by kernel_rfl) ?_)
  | (replace tok:Tok 6:=nxT 5 tok;refine wpList_load_row (by rfl) 72 (.tmp 3) rfl (w3.heap.size) rfl 72 #[.int .u8 1,.bool f.b1,.slice f.a1 f.n1 f.c1,.bool f.b2,.slice f.a2 f.n2 f.c2,.bool f2.b1,.slice f2.a1 f2.n1 f2.c1,.bool f2.b2,.slice f2.a2 f2.n2 f2.c2] (0,0) _ (setRow_heap _ _ _ _ _ _ (setRow_heap _ _ _ _ _ _ z6.out)) Tryz.underlying72 rfl (by kernel_rfl) ?_)
  | ((have _t:Tok 6:=tok);clear _t;clear tok;refine wpList_store_row rfl 72 (.tmp 2) (.tmp 45) rfl (w.heap.size) #[.int .u8 1,.bool f.b1,.slice f.a1 f.n1 f.c1,.bool f.b2,.slice f.a2 f.n2 f.c2,.bool f2.b1,.slice f2.a1 f2.n1 f2.c1,.bool f2.b2,.slice f2.a2 f2.n2 f2.c2] rfl rfl 72 _ ((setRow_other _ _ _ _ (by have:=hS3.out;omega)).trans ((setRow_other _ _ _ _ (by have:=hS3.out;omega)).trans t6.out)) (by kernel_rfl) rfl (by kernel_rfl) ?_))
 have q7:(w6.setRow w3.heap.size #[.int .u8 1,.bool f1.b1,.slice f1.a1 f1.n1 f1.c1,.bool f1.b2,.slice f1.a2 f1.n2 f1.c2,.bool f2.b1,.slice f2.a1 f2.n1 f2.c1,.bool f2.b2,.slice f2.a2 f2.n2 f2.c2]).heap[w3.heap.size]? = some (.cells #[.int .u8 1,.bool f1.b1,.slice f1.a1 f1.n1 f1.c1,.bool f1.b2,.slice f1.a2 f1.n2 f1.c2,.bool f2.b1,.slice f2.a1 f2.n1 f2.c1,.bool f2.b2,.slice f2.a2 f2.n2 f2.c2] 72 (0,0)):=setRow_heap _ _ _ _ _ _ z6.out;have q8:((w6.setRow w3.heap.size #[.int .u8 1,.bool f1.b1,.slice f1.a1 f1.n1 f1.c1,.bool f1.b2,.slice f1.a2 f1.n2 f1.c2,.bool f2.b1,.slice f2.a1 f2.n1 f2.c1,.bool f2.b2,.slice f2.a2 f2.n2 f2.c2]).setRow w3.heap.size #[.int .u8 1,.bool f.b1,.slice f.a1 f.n1 f.c1,.bool f.b2,.slice f.a2 f.n2 f.c2,.bool f2.b1,.slice f2.a1 f2.n1 f2.c1,.bool f2.b2,.slice f2.a2 f2.n2 f2.c2]).heap[w.heap.size]? = some (.cells #[.int .u8 0,.bool false,.slice none 0 0,.bool false,.slice none 0 0,.bool false,.slice none 0 0,.bool false,.slice none 0 0] 72 (0,0)):=(setRow_other _ _ _ _ (by have:=hS3.out;omega)).trans ((setRow_other _ _ _ _ (by have:=hS3.out;omega)).trans t6.out);refine bodyPost_ret (results_cell_row rfl _ _ w.heap.size 72 #[.int .u8 1,.bool f.b1,.slice f.a1 f.n1 f.c1,.bool f.b2,.slice f.a2 f.n2 f.c2,.bool f2.b1,.slice f2.a1 f2.n1 f2.c1,.bool f2.b2,.slice f2.a2 f2.n2 f2.c2] (0,0) _ rfl (setRow_heap _ _ _ _ _ _ q8) Tryz.underlying72 rfl (by kernel_rfl)) rfl ⟨1,f,f2,1,rfl,?_,?_,fun x r h=>?_⟩
 ·have:=((hR6.out.set z6.out (by decide) (by have:=hS3.out;omega) #[.int .u8 1,.bool f1.b1,.slice f1.a1 f1.n1 f1.c1,.bool f1.b2,.slice f1.a2 f1.n2 f1.c2,.bool f2.b1,.slice f2.a1 f2.n1 f2.c1,.bool f2.b2,.slice f2.a2 f2.n2 f2.c2]).set q7 (by decide) (by have:=hS3.out;omega) #[.int .u8 1,.bool f.b1,.slice f.a1 f.n1 f.c1,.bool f.b2,.slice f.a2 f.n2 f.c2,.bool f2.b1,.slice f2.a1 f2.n1 f2.c1,.bool f2.b2,.slice f2.a2 f2.n2 f2.c2]).set q8 (by decide) (by omega) #[.int .u8 1,.bool f.b1,.slice f.a1 f.n1 f.c1,.bool f.b2,.slice f.a2 f.n2 f.c2,.bool f2.b1,.slice f2.a1 f2.n1 f2.c1,.bool f2.b2,.slice f2.a2 f2.n2 f2.c2]
  simpa using this
 ·refine ((hC6.out.mono (T:=fun k=>k=rp∨w.heap.size≤k) fun k _ hk=>.inl hk).trans (((Aq w6 w3.heap.size _).mono fun k _ hk=>.inr (by have:=hS3.out;omega)).trans (((Aq _ w3.heap.size _).mono fun k _ hk=>.inr (by have:=hS3.out;omega)).trans ((Aq _ w.heap.size _).mono fun k _ hk=>.inr (by omega))))).mono fun k hk h=>?_
  rcases h with h|h
  ·exact h
  ·omega
 ·simp only [Option.map_eq_some_iff,Prod.mk.injEq] at h
  obtain ⟨⟨y,r'⟩,hy,rfl,rfl⟩:=h;refine ⟨by rw [(De hy).2.2];simp,rfl,(((hf6'.out _ _ hy).stE z6.out _).stE q7 _).stE q8 _,((g26.out.stE z6.out _).stE q7 _).stE q8 _⟩
theorem Agu (rp:Nat)(t:WL)(bad:Bool)(w:World)(h:RdS rp (Bm 2::t) bad w)(hs:∀ x∈t,x.length≤65536)(hm:∀ W,Chg w W (· = rp)→Max0 W) :
  Calls Tryz.prog 38 #[.pointer (some ⟨rp,0,none⟩)] w (TkE rp (Bm 2::t) bad w):=by
 have hrp:=h.lt;have KN:=mK (fun W=>Fa W);obtain ⟨w1,hw1⟩:=nmE (w.alloc (.cells #[.int .u8 0,.bool false,.slice none 0 0,.bool false,.slice none 0 0,.bool false,.slice none 0 0,.bool false,.slice none 0 0] 72));have hE1:=mK (show Ext w w1 by rw [hw1];exact (xR w).al _);have z1:=mK (aL10 hw1);replace hw1:=mK hw1;have hh:=mK h;have KW:Hid (∀ W,Ext w W→Calls Tryz.prog 34 #[.pointer (some ⟨rp,0,none⟩)] W fun e w'=>e=.returned (.string ⟨#[108,101,110,115]⟩)∧RdS rp t bad w'∧Chg W w' (· = rp)):=fun W e=>(Ej rp _ bad W (h.ext e)).mono fun e w' k=>⟨k.1,by simpa using k.2.1,k.2.2⟩
 have KF:=mK (fun W (hR:RdS rp t bad W) hm=>Ft rp t bad W hR hs hm);have hE:=tE_1 (x:=Bm 2) (K:=2) (by decide) (by decide) t;unfold TkE;rw [hE];have hM:=mK hm;clear h hs hm hE;go_enter Tryz.func38,Tryz.ntmps38;have tok:Tok 0:=.mk _
 go_wp2_with (first
  | (replace tok:Tok 1:=nxT 0 tok;go_at_call 87;rw [←hw1.out];refine (KN.out _).mono ?_;rintro e w2 ⟨f1,rfl,hx2,hf1⟩;(replace hf1:=mK hf1);(replace hx2:=mK hx2))
  | ((replace tok:Tok 2:=nxT 1 tok;go_at_call 87;refine (KN.out _).mono ?_;rintro e w3 ⟨f2,rfl,hx3,hf2⟩);((obtain ⟨w4,hw4⟩:=nmE (w3.alloc (.cells #[.int .u8 0,.bool f1.b1,.slice f1.a1 f1.n1 f1.c1,.bool f1.b2,.slice f1.a2 f1.n2 f1.c2,.bool f2.b1,.slice f2.a1 f2.n1 f2.c1,.bool f2.b2,.slice f2.a2 f2.n2 f2.c2] 72))));((have hx4:Ext w3 w4:=by rw [hw4];exact (xR w3).al _));((have zS:=mK (aL10 hw4)));((have hE4:=mK (hE1.out.trans (hx2.out.trans (hx3.trans hx4)))));((have zT:=mK ((hx2.out.trans (hx3.trans hx4)).blk z1.out)));((have g1:=mK (((hf1.out.ext (hx3.trans hx4)).mono hE1.out.size))));((have g2:=mK (((hf2.ext hx4).mono (nT hE1.out.size hx2.out.size)))));((have hS3:=mK (show w.heap.size<w3.heap.size from Nat.lt_of_lt_of_le (Array.getElem?_eq_some_iff.1 z1.out).1 (nT hx2.out.size hx3.size))));((replace hw4:=mK hw4);clear hx2 hx3 hx4 hf1 hf2))
  | ((replace tok:Tok 3:=nxT 2 tok;go_at_call 34;rw [←hw4.out];refine (KW.out _ hE4.out).mono ?_;rintro e w5 ⟨rfl,hR5,hc5⟩);((have hC5:=mK ((Chg.of_ext hE4.out _).trans hc5)));((have zS5:=mK ((hc5.block _ (Array.getElem?_eq_some_iff.1 zS.out).1 (by have:=hS3.out;omega)).trans zS.out)));((have zT5:=mK ((hc5.block _ (Array.getElem?_eq_some_iff.1 zT.out).1 (by omega)).trans zT.out)));((have g15:=mK (g1.out.chR hc5 hrp));(have g25:=mK (g2.out.chR hc5 hrp)));((replace hR5:=mK hR5);clear zS zT g1 g2 hc5))
  | ((replace tok:Tok 4:=nxT 3 tok;go_at_call 35;refine (KF.out _ hR5.out (fun W hW=>hM.out W (hC5.out.trans hW))).mono ?_;rintro e w6 ⟨f,rfl,hR6,hc6,hf6⟩);((have z6:=(hc6.block _ (Array.getElem?_eq_some_iff.1 zS5.out).1 (by have:=hS3.out;omega)).trans zS5.out));((have t6:=mK ((hc6.block _ (Array.getElem?_eq_some_iff.1 zT5.out).1 (by omega)).trans zT5.out)));((have hl5:=hC5.out.size));((have g26:=mK (g25.out.chR hc6 hrp)));((obtain ⟨y0,-⟩:=ceL1 z6));((have fz:w6.frozen? ⟨w3.heap.size,0,none⟩=false:=Lib.frozen_of_heap z6 0));((have e1:=mK (fun v=>show w6.setCell ⟨w3.heap.size,0,none⟩ v=w6.setRow w3.heap.size #[v,.bool f1.b1,.slice f1.a1 f1.n1 f1.c1,.bool f1.b2,.slice f1.a2 f1.n2 f1.c2,.bool f2.b1,.slice f2.a1 f2.n1 f2.c1,.bool f2.b2,.slice f2.a2 f2.n2 f2.c2] from (setCell_eq_setRow w6 w3.heap.size 0 _ _ _ v z6).trans rfl)));((replace z6:=mK z6);(replace hR6:=mK hR6);(have hC6:=mK (hC5.out.trans hc6));(have hf6':=mK (fun x r hx=>(hf6 x r hx).mono hl5));clear hc6 hf6 hl5))
  | (replace tok:Tok 5:=nxT 4 tok;rw [e1.out];refine Bg rfl 28 (.tmp 23) (.tmp 21) rfl w3.heap.size 1 rfl 72 #[.int .u8 2,.bool f1.b1,.slice f1.a1 f1.n1 f1.c1,.bool f1.b2,.slice f1.a2 f1.n2 f1.c2,.bool f2.b1,.slice f2.a1 f2.n1 f2.c1,.bool f2.b2,.slice f2.a2 f2.n2 f2.c2] #[.int .u8 2,.bool f.b1,.slice f.a1 f.n1 f.c1,.bool f.b2,.slice f.a2 f.n2 f.c2,.bool f2.b1,.slice f2.a1 f2.n1 f2.c1,.bool f2.b2,.slice f2.a2 f2.n2 f2.c2] #[.bool f.b1,.slice f.a1 f.n1 f.c1,.bool f.b2,.slice f.a2 f.n2 f.c2] rfl (setRow_heap _ _ _ _ _ _ z6.out) (by kernel_rfl) (by simp) (by kernel_rfl) (by kernel_rfl) ?_)
  | (replace tok:Tok 6:=nxT 5 tok;refine wpList_load_row (by rfl) 72 (.tmp 3) rfl (w3.heap.size) rfl 72 #[.int .u8 2,.bool f.b1,.slice f.a1 f.n1 f.c1,.bool f.b2,.slice f.a2 f.n2 f.c2,.bool f2.b1,.slice f2.a1 f2.n1 f2.c1,.bool f2.b2,.slice f2.a2 f2.n2 f2.c2] (0,0) _ (setRow_heap _ _ _ _ _ _ (setRow_heap _ _ _ _ _ _ z6.out)) Tryz.underlying72 rfl (by kernel_rfl) ?_)
  | ((have _t:Tok 6:=tok);clear _t;clear tok;refine wpList_store_row rfl 72 (.tmp 2) (.tmp 45) rfl (w.heap.size) #[.int .u8 2,.bool f.b1,.slice f.a1 f.n1 f.c1,.bool f.b2,.slice f.a2 f.n2 f.c2,.bool f2.b1,.slice f2.a1 f2.n1 f2.c1,.bool f2.b2,.slice f2.a2 f2.n2 f2.c2] rfl rfl 72 _ ((setRow_other _ _ _ _ (by have:=hS3.out;omega)).trans ((setRow_other _ _ _ _ (by have:=hS3.out;omega)).trans t6.out)) (by kernel_rfl) rfl (by kernel_rfl) ?_))
 have q7:(w6.setRow w3.heap.size #[.int .u8 2,.bool f1.b1,.slice f1.a1 f1.n1 f1.c1,.bool f1.b2,.slice f1.a2 f1.n2 f1.c2,.bool f2.b1,.slice f2.a1 f2.n1 f2.c1,.bool f2.b2,.slice f2.a2 f2.n2 f2.c2]).heap[w3.heap.size]? = some (.cells #[.int .u8 2,.bool f1.b1,.slice f1.a1 f1.n1 f1.c1,.bool f1.b2,.slice f1.a2 f1.n2 f1.c2,.bool f2.b1,.slice f2.a1 f2.n1 f2.c1,.bool f2.b2,.slice f2.a2 f2.n2 f2.c2] 72 (0,0)):=setRow_heap _ _ _ _ _ _ z6.out;have q8:((w6.setRow w3.heap.size #[.int .u8 2,.bool f1.b1,.slice f1.a1 f1.n1 f1.c1,.bool f1.b2,.slice f1.a2 f1.n2 f1.c2,.bool f2.b1,.slice f2.a1 f2.n1 f2.c1,.bool f2.b2,.slice f2.a2 f2.n2 f2.c2]).setRow w3.heap.size #[.int .u8 2,.bool f.b1,.slice f.a1 f.n1 f.c1,.bool f.b2,.slice f.a2 f.n2 f.c2,.bool f2.b1,.slice f2.a1 f2.n1 f2.c1,.bool f2.b2,.slice f2.a2 f2.n2 f2.c2]).heap[w.heap.size]? = some (.cells #[.int .u8 0,.bool false,.slice none 0 0,.bool false,.slice none 0 0,.bool false,.slice none 0 0,.bool false,.slice none 0 0] 72 (0,0)):=(setRow_other _ _ _ _ (by have:=hS3.out;omega)).trans ((setRow_other _ _ _ _ (by have:=hS3.out;omega)).trans t6.out);refine bodyPost_ret (results_cell_row rfl _ _ w.heap.size 72 #[.int .u8 2,.bool f.b1,.slice f.a1 f.n1 f.c1,.bool f.b2,.slice f.a2 f.n2 f.c2,.bool f2.b1,.slice f2.a1 f2.n1 f2.c1,.bool f2.b2,.slice f2.a2 f2.n2 f2.c2] (0,0) _ rfl (setRow_heap _ _ _ _ _ _ q8) Tryz.underlying72 rfl (by kernel_rfl)) rfl ⟨2,f,f2,1,rfl,?_,?_,fun x r h=>?_⟩
 ·have:=((hR6.out.set z6.out (by decide) (by have:=hS3.out;omega) #[.int .u8 2,.bool f1.b1,.slice f1.a1 f1.n1 f1.c1,.bool f1.b2,.slice f1.a2 f1.n2 f1.c2,.bool f2.b1,.slice f2.a1 f2.n1 f2.c1,.bool f2.b2,.slice f2.a2 f2.n2 f2.c2]).set q7 (by decide) (by have:=hS3.out;omega) #[.int .u8 2,.bool f.b1,.slice f.a1 f.n1 f.c1,.bool f.b2,.slice f.a2 f.n2 f.c2,.bool f2.b1,.slice f2.a1 f2.n1 f2.c1,.bool f2.b2,.slice f2.a2 f2.n2 f2.c2]).set q8 (by decide) (by omega) #[.int .u8 2,.bool f.b1,.slice f.a1 f.n1 f.c1,.bool f.b2,.slice f.a2 f.n2 f.c2,.bool f2.b1,.slice f2.a1 f2.n1 f2.c1,.bool f2.b2,.slice f2.a2 f2.n2 f2.c2]
  simpa using this
 ·refine ((hC6.out.mono (T:=fun k=>k=rp∨w.heap.size≤k) fun k _ hk=>.inl hk).trans (((Aq w6 w3.heap.size _).mono fun k _ hk=>.inr (by have:=hS3.out;omega)).trans (((Aq _ w3.heap.size _).mono fun k _ hk=>.inr (by have:=hS3.out;omega)).trans ((Aq _ w.heap.size _).mono fun k _ hk=>.inr (by omega))))).mono fun k hk h=>?_
  rcases h with h|h
  ·exact h
  ·omega
 ·simp only [Option.map_eq_some_iff,Prod.mk.injEq] at h
  obtain ⟨⟨y,r'⟩,hy,rfl,rfl⟩:=h;refine ⟨by rw [(De hy).2.2];simp,rfl,(((hf6'.out _ _ hy).stE z6.out _).stE q7 _).stE q8 _,((g26.out.stE z6.out _).stE q7 _).stE q8 _⟩
theorem tt2 (t:WL):t.tail.tail=t.drop 2:=by
 cases t with
 | nil=>rfl
 | cons x r=>cases r<;>rfl
theorem Ae4 {α:Type}(f:Rat×WL→Rat×WL→α)(t:WL)(bad:Bool):(bad || !(tF t).isSome || !(tF t.tail).isSome)=(bad || !((tF t).bind fun y=>(tF y.2).map fun z=>f y z).isSome):=by
 cases h:tF t with
 | none=>cases bad<;>simp
 | some y=>
  obtain ⟨a,b⟩:=y;obtain rfl:=(De h).2.2;simp
theorem Agt (rp:Nat)(t:WL)(bad:Bool)(w:World)(h:RdS rp (Bm 3::t) bad w)(hs:∀ x∈t,x.length≤65536)(hm:∀ W,Chg w W (· = rp)→Max0 W) :
  Calls Tryz.prog 38 #[.pointer (some ⟨rp,0,none⟩)] w (TkE rp (Bm 3::t) bad w):=by
 have hrp:=h.lt;have KN:=mK (fun W=>Fa W);obtain ⟨w1,hw1⟩:=nmE (w.alloc (.cells #[.int .u8 0,.bool false,.slice none 0 0,.bool false,.slice none 0 0,.bool false,.slice none 0 0,.bool false,.slice none 0 0] 72));have hE1:=mK (show Ext w w1 by rw [hw1];exact (xR w).al _);have z1:=mK (aL10 hw1);replace hw1:=mK hw1;have hh:=mK h;have KW:Hid (∀ W,Ext w W→Calls Tryz.prog 34 #[.pointer (some ⟨rp,0,none⟩)] W fun e w'=>e=.returned (.string ⟨#[115,108,97,98]⟩)∧RdS rp t bad w'∧Chg W w' (· = rp)):=fun W e=>(Ej rp _ bad W (h.ext e)).mono fun e w' k=>⟨k.1,by simpa using k.2.1,k.2.2⟩
 have KF:=mK (fun W (hR:RdS rp t bad W) hm=>Ft rp t bad W hR hs hm);have KG:=mK (fun W b (hR:RdS rp t.tail b W) hm=>Ft rp t.tail b W hR (fun x hx=>hs x (List.mem_of_mem_tail hx)) hm);have hE:=tE_2 (x:=Bm 3) (K:=3) (by decide) (by decide) t;have hb2:=Ae4 (fun y z=>((⟨3,y.1,z.1⟩:EL),z.2)) t bad;unfold TkE;rw [hE,←hb2];have hM:=mK hm;clear h hs hm hE hb2;go_enter Tryz.func38,Tryz.ntmps38;have tok:Tok 0:=.mk _
 go_wp2_with (first
  | (replace tok:Tok 1:=nxT 0 tok;go_at_call 87;rw [←hw1.out];refine (KN.out _).mono ?_;rintro e w2 ⟨f1,rfl,hx2,hf1⟩;(replace hf1:=mK hf1);(replace hx2:=mK hx2))
  | ((replace tok:Tok 2:=nxT 1 tok;go_at_call 87;refine (KN.out _).mono ?_;rintro e w3 ⟨f2,rfl,hx3,hf2⟩);((obtain ⟨w4,hw4⟩:=nmE (w3.alloc (.cells #[.int .u8 0,.bool f1.b1,.slice f1.a1 f1.n1 f1.c1,.bool f1.b2,.slice f1.a2 f1.n2 f1.c2,.bool f2.b1,.slice f2.a1 f2.n1 f2.c1,.bool f2.b2,.slice f2.a2 f2.n2 f2.c2] 72))));((have hx4:Ext w3 w4:=by rw [hw4];exact (xR w3).al _));((have zS:=mK (aL10 hw4)));((have hE4:=mK (hE1.out.trans (hx2.out.trans (hx3.trans hx4)))));((have zT:=mK ((hx2.out.trans (hx3.trans hx4)).blk z1.out)));((have g1:=mK (((hf1.out.ext (hx3.trans hx4)).mono hE1.out.size))));((have g2:=mK (((hf2.ext hx4).mono (nT hE1.out.size hx2.out.size)))));((have hS3:=mK (show w.heap.size<w3.heap.size from Nat.lt_of_lt_of_le (Array.getElem?_eq_some_iff.1 z1.out).1 (nT hx2.out.size hx3.size))));((replace hw4:=mK hw4);clear hx2 hx3 hx4 hf1 hf2))
  | ((replace tok:Tok 3:=nxT 2 tok;go_at_call 34;rw [←hw4.out];refine (KW.out _ hE4.out).mono ?_;rintro e w5 ⟨rfl,hR5,hc5⟩);((have hC5:=mK ((Chg.of_ext hE4.out _).trans hc5)));((have zS5:=mK ((hc5.block _ (Array.getElem?_eq_some_iff.1 zS.out).1 (by have:=hS3.out;omega)).trans zS.out)));((have zT5:=mK ((hc5.block _ (Array.getElem?_eq_some_iff.1 zT.out).1 (by omega)).trans zT.out)));((have g15:=mK (g1.out.chR hc5 hrp));(have g25:=mK (g2.out.chR hc5 hrp)));((replace hR5:=mK hR5);clear zS zT g1 g2 hc5))
  | ((replace tok:Tok 4:=nxT 3 tok;go_at_call 35;refine (KF.out _ hR5.out (fun W hW=>hM.out W (hC5.out.trans hW))).mono ?_;rintro e w6 ⟨f,rfl,hR6,hc6,hf6⟩);((have z6:=mK ((hc6.block _ (Array.getElem?_eq_some_iff.1 zS5.out).1 (by have:=hS3.out;omega)).trans zS5.out)));((have t6:=mK ((hc6.block _ (Array.getElem?_eq_some_iff.1 zT5.out).1 (by omega)).trans zT5.out)));((have hl5:=hC5.out.size));((replace hR6:=mK hR6);(have hC6:=mK (hC5.out.trans hc6));(have hf6':=mK (fun x r hx=>(hf6 x r hx).mono hl5));clear hc6 hf6 hl5 g15 g25))
  | ((replace tok:Tok 5:=nxT 4 tok;go_at_call 35;refine (KG.out _ _ hR6.out (fun W hW=>hM.out W (hC6.out.trans hW))).mono ?_;rintro e w7 ⟨g,rfl,hR7,hc7,hf7⟩);((have z7:=(hc7.block _ (Array.getElem?_eq_some_iff.1 z6.out).1 (by have:=hS3.out;omega)).trans z6.out));((have t7:=mK ((hc7.block _ (Array.getElem?_eq_some_iff.1 t6.out).1 (by omega)).trans t6.out)));((have hl6:=hC6.out.size));((obtain ⟨y0,-⟩:=ceL1 z7));((have fz:w7.frozen? ⟨w3.heap.size,0,none⟩=false:=Lib.frozen_of_heap z7 0));((have e1:=mK (fun v=>show w7.setCell ⟨w3.heap.size,0,none⟩ v=w7.setRow w3.heap.size #[v,.bool f1.b1,.slice f1.a1 f1.n1 f1.c1,.bool f1.b2,.slice f1.a2 f1.n2 f1.c2,.bool f2.b1,.slice f2.a1 f2.n1 f2.c1,.bool f2.b2,.slice f2.a2 f2.n2 f2.c2] from (setCell_eq_setRow w7 w3.heap.size 0 _ _ _ v z7).trans rfl)));((replace z7:=mK z7);(replace hR7:=mK hR7);(have hC7:=mK (hC6.out.trans hc7));(have hf7':=mK (fun x r hx=>(hf7 x r hx).mono hl6));(have hf6a:=mK (fun x r hx=>(hf6'.out x r hx).chR hc7 hrp));clear hc7 hf7 hl6))
  | (replace tok:Tok 6:=nxT 5 tok;rw [e1.out];refine Bg rfl 28 (.tmp 31) (.tmp 27) rfl w3.heap.size 1 rfl 72 #[.int .u8 3,.bool f1.b1,.slice f1.a1 f1.n1 f1.c1,.bool f1.b2,.slice f1.a2 f1.n2 f1.c2,.bool f2.b1,.slice f2.a1 f2.n1 f2.c1,.bool f2.b2,.slice f2.a2 f2.n2 f2.c2] #[.int .u8 3,.bool f.b1,.slice f.a1 f.n1 f.c1,.bool f.b2,.slice f.a2 f.n2 f.c2,.bool f2.b1,.slice f2.a1 f2.n1 f2.c1,.bool f2.b2,.slice f2.a2 f2.n2 f2.c2] #[.bool f.b1,.slice f.a1 f.n1 f.c1,.bool f.b2,.slice f.a2 f.n2 f.c2] rfl (setRow_heap _ _ _ _ _ _ z7.out) (by kernel_rfl) (by simp) (by kernel_rfl) (by kernel_rfl) ?_)
  | (replace tok:Tok 7:=nxT 6 tok;refine Bg rfl 28 (.tmp 32) (.tmp 29) rfl w3.heap.size 5 rfl 72 #[.int .u8 3,.bool f.b1,.slice f.a1 f.n1 f.c1,.bool f.b2,.slice f.a2 f.n2 f.c2,.bool f2.b1,.slice f2.a1 f2.n1 f2.c1,.bool f2.b2,.slice f2.a2 f2.n2 f2.c2] #[.int .u8 3,.bool f.b1,.slice f.a1 f.n1 f.c1,.bool f.b2,.slice f.a2 f.n2 f.c2,.bool g.b1,.slice g.a1 g.n1 g.c1,.bool g.b2,.slice g.a2 g.n2 g.c2] #[.bool g.b1,.slice g.a1 g.n1 g.c1,.bool g.b2,.slice g.a2 g.n2 g.c2] rfl (setRow_heap _ _ _ _ _ _ (setRow_heap _ _ _ _ _ _ z7.out)) (by kernel_rfl) (by simp) (by kernel_rfl) (by kernel_rfl) ?_)
  | (replace tok:Tok 8:=nxT 7 tok;refine wpList_load_row (by rfl) 72 (.tmp 3) rfl (w3.heap.size) rfl 72 #[.int .u8 3,.bool f.b1,.slice f.a1 f.n1 f.c1,.bool f.b2,.slice f.a2 f.n2 f.c2,.bool g.b1,.slice g.a1 g.n1 g.c1,.bool g.b2,.slice g.a2 g.n2 g.c2] (0,0) _ (setRow_heap _ _ _ _ _ _ (setRow_heap _ _ _ _ _ _ (setRow_heap _ _ _ _ _ _ z7.out))) Tryz.underlying72 rfl (by kernel_rfl) ?_)
  | ((have _t:Tok 8:=tok);clear _t;clear tok;refine wpList_store_row rfl 72 (.tmp 2) (.tmp 45) rfl (w.heap.size) #[.int .u8 3,.bool f.b1,.slice f.a1 f.n1 f.c1,.bool f.b2,.slice f.a2 f.n2 f.c2,.bool g.b1,.slice g.a1 g.n1 g.c1,.bool g.b2,.slice g.a2 g.n2 g.c2] rfl rfl 72 _ ((setRow_other _ _ _ _ (by have:=hS3.out;omega)).trans ((setRow_other _ _ _ _ (by have:=hS3.out;omega)).trans ((setRow_other _ _ _ _ (by have:=hS3.out;omega)).trans t7.out))) (by kernel_rfl) rfl (by kernel_rfl) ?_))
 have q7:(w7.setRow w3.heap.size #[.int .u8 3,.bool f1.b1,.slice f1.a1 f1.n1 f1.c1,.bool f1.b2,.slice f1.a2 f1.n2 f1.c2,.bool f2.b1,.slice f2.a1 f2.n1 f2.c1,.bool f2.b2,.slice f2.a2 f2.n2 f2.c2]).heap[w3.heap.size]? = some (.cells #[.int .u8 3,.bool f1.b1,.slice f1.a1 f1.n1 f1.c1,.bool f1.b2,.slice f1.a2 f1.n2 f1.c2,.bool f2.b1,.slice f2.a1 f2.n1 f2.c1,.bool f2.b2,.slice f2.a2 f2.n2 f2.c2] 72 (0,0)):=setRow_heap _ _ _ _ _ _ z7.out;have q8:((w7.setRow w3.heap.size #[.int .u8 3,.bool f1.b1,.slice f1.a1 f1.n1 f1.c1,.bool f1.b2,.slice f1.a2 f1.n2 f1.c2,.bool f2.b1,.slice f2.a1 f2.n1 f2.c1,.bool f2.b2,.slice f2.a2 f2.n2 f2.c2]).setRow w3.heap.size #[.int .u8 3,.bool f.b1,.slice f.a1 f.n1 f.c1,.bool f.b2,.slice f.a2 f.n2 f.c2,.bool f2.b1,.slice f2.a1 f2.n1 f2.c1,.bool f2.b2,.slice f2.a2 f2.n2 f2.c2]).heap[w3.heap.size]? = some (.cells #[.int .u8 3,.bool f.b1,.slice f.a1 f.n1 f.c1,.bool f.b2,.slice f.a2 f.n2 f.c2,.bool f2.b1,.slice f2.a1 f2.n1 f2.c1,.bool f2.b2,.slice f2.a2 f2.n2 f2.c2] 72 (0,0)):=setRow_heap _ _ _ _ _ _ q7;have q9:(((w7.setRow w3.heap.size #[.int .u8 3,.bool f1.b1,.slice f1.a1 f1.n1 f1.c1,.bool f1.b2,.slice f1.a2 f1.n2 f1.c2,.bool f2.b1,.slice f2.a1 f2.n1 f2.c1,.bool f2.b2,.slice f2.a2 f2.n2 f2.c2]).setRow w3.heap.size #[.int .u8 3,.bool f.b1,.slice f.a1 f.n1 f.c1,.bool f.b2,.slice f.a2 f.n2 f.c2,.bool f2.b1,.slice f2.a1 f2.n1 f2.c1,.bool f2.b2,.slice f2.a2 f2.n2 f2.c2]).setRow w3.heap.size #[.int .u8 3,.bool f.b1,.slice f.a1 f.n1 f.c1,.bool f.b2,.slice f.a2 f.n2 f.c2,.bool g.b1,.slice g.a1 g.n1 g.c1,.bool g.b2,.slice g.a2 g.n2 g.c2]).heap[w.heap.size]? = some (.cells #[.int .u8 0,.bool false,.slice none 0 0,.bool false,.slice none 0 0,.bool false,.slice none 0 0,.bool false,.slice none 0 0] 72 (0,0)):=(setRow_other _ _ _ _ (by have:=hS3.out;omega)).trans ((setRow_other _ _ _ _ (by have:=hS3.out;omega)).trans ((setRow_other _ _ _ _ (by have:=hS3.out;omega)).trans t7.out))
 refine bodyPost_ret (results_cell_row rfl _ _ w.heap.size 72 #[.int .u8 3,.bool f.b1,.slice f.a1 f.n1 f.c1,.bool f.b2,.slice f.a2 f.n2 f.c2,.bool g.b1,.slice g.a1 g.n1 g.c1,.bool g.b2,.slice g.a2 g.n2 g.c2] (0,0) _ rfl (setRow_heap _ _ _ _ _ _ q9) Tryz.underlying72 rfl (by kernel_rfl)) rfl ⟨3,f,g,2,rfl,?_,?_,fun x r h=>?_⟩
 ·have:=(((hR7.out.set z7.out (by decide) (by have:=hS3.out;omega) #[.int .u8 3,.bool f1.b1,.slice f1.a1 f1.n1 f1.c1,.bool f1.b2,.slice f1.a2 f1.n2 f1.c2,.bool f2.b1,.slice f2.a1 f2.n1 f2.c1,.bool f2.b2,.slice f2.a2 f2.n2 f2.c2]).set q7 (by decide) (by have:=hS3.out;omega) #[.int .u8 3,.bool f.b1,.slice f.a1 f.n1 f.c1,.bool f.b2,.slice f.a2 f.n2 f.c2,.bool f2.b1,.slice f2.a1 f2.n1 f2.c1,.bool f2.b2,.slice f2.a2 f2.n2 f2.c2]).set q8 (by decide) (by have:=hS3.out;omega) #[.int .u8 3,.bool f.b1,.slice f.a1 f.n1 f.c1,.bool f.b2,.slice f.a2 f.n2 f.c2,.bool g.b1,.slice g.a1 g.n1 g.c1,.bool g.b2,.slice g.a2 g.n2 g.c2]).set q9 (by decide) (by omega) #[.int .u8 3,.bool f.b1,.slice f.a1 f.n1 f.c1,.bool f.b2,.slice f.a2 f.n2 f.c2,.bool g.b1,.slice g.a1 g.n1 g.c1,.bool g.b2,.slice g.a2 g.n2 g.c2]
  rw [tt2] at this;simpa using this
 ·refine ((hC7.out.mono (T:=fun k=>k=rp∨w.heap.size≤k) fun k _ hk=>.inl hk).trans (((Aq w7 w3.heap.size _).mono fun k _ hk=>.inr (by have:=hS3.out;omega)).trans (((Aq _ w3.heap.size _).mono fun k _ hk=>.inr (by have:=hS3.out;omega)).trans (((Aq _ w3.heap.size _).mono fun k _ hk=>.inr (by have:=hS3.out;omega)).trans ((Aq _ w.heap.size _).mono fun k _ hk=>.inr (by omega)))))).mono fun k hk h=>?_
  rcases h with h|h
  ·exact h
  ·omega
 ·simp only [Option.bind_eq_some_iff,Option.map_eq_some_iff,Prod.mk.injEq] at h
  obtain ⟨⟨y,r1⟩,hy,⟨z,r2⟩,hz,rfl,rfl⟩:=h;obtain rfl:=(De hy).2.2;refine ⟨by rw [(De hz).2.2];exact tt2 t,rfl,((((hf6a.out _ _ hy).stE z7.out _).stE q7 _).stE q8 _).stE q9 _,((((hf7'.out _ _ hz).stE z7.out _).stE q7 _).stE q8 _).stE q9 _⟩
theorem Ags (rp:Nat)(t:WL)(bad:Bool)(w:World)(h:RdS rp (Bm 4::t) bad w)(hs:∀ x∈t,x.length≤65536)(hm:∀ W,Chg w W (· = rp)→Max0 W) :
  Calls Tryz.prog 38 #[.pointer (some ⟨rp,0,none⟩)] w (TkE rp (Bm 4::t) bad w):=by
 have hrp:=h.lt;have KN:=mK (fun W=>Fa W);obtain ⟨w1,hw1⟩:=nmE (w.alloc (.cells #[.int .u8 0,.bool false,.slice none 0 0,.bool false,.slice none 0 0,.bool false,.slice none 0 0,.bool false,.slice none 0 0] 72));have hE1:=mK (show Ext w w1 by rw [hw1];exact (xR w).al _);have z1:=mK (aL10 hw1);replace hw1:=mK hw1;have hh:=mK h;have KW:Hid (∀ W,Ext w W→Calls Tryz.prog 34 #[.pointer (some ⟨rp,0,none⟩)] W fun e w'=>e=.returned (.string ⟨#[115,117,114,102,97,99,101]⟩)∧RdS rp t bad w'∧Chg W w' (· = rp)):=fun W e=>(Ej rp _ bad W (h.ext e)).mono fun e w' k=>⟨k.1,by simpa using k.2.1,k.2.2⟩
 have KF:=mK (fun W (hR:RdS rp t bad W) hm=>Ft rp t bad W hR hs hm);have KG:=mK (fun W b (hR:RdS rp t.tail b W) hm=>Ft rp t.tail b W hR (fun x hx=>hs x (List.mem_of_mem_tail hx)) hm);have hE:=tE_2 (x:=Bm 4) (K:=4) (by decide) (by decide) t;have hb2:=Ae4 (fun y z=>((⟨4,y.1,z.1⟩:EL),z.2)) t bad;unfold TkE;rw [hE,←hb2];have hM:=mK hm;clear h hs hm hE hb2;go_enter Tryz.func38,Tryz.ntmps38;have tok:Tok 0:=.mk _
 go_wp2_with (first
  | (replace tok:Tok 1:=nxT 0 tok;go_at_call 87;rw [←hw1.out];refine (KN.out _).mono ?_;rintro e w2 ⟨f1,rfl,hx2,hf1⟩;(replace hf1:=mK hf1);(replace hx2:=mK hx2))
  | ((replace tok:Tok 2:=nxT 1 tok;go_at_call 87;refine (KN.out _).mono ?_;rintro e w3 ⟨f2,rfl,hx3,hf2⟩);((obtain ⟨w4,hw4⟩:=nmE (w3.alloc (.cells #[.int .u8 0,.bool f1.b1,.slice f1.a1 f1.n1 f1.c1,.bool f1.b2,.slice f1.a2 f1.n2 f1.c2,.bool f2.b1,.slice f2.a1 f2.n1 f2.c1,.bool f2.b2,.slice f2.a2 f2.n2 f2.c2] 72))));((have hx4:Ext w3 w4:=by rw [hw4];exact (xR w3).al _));((have zS:=mK (aL10 hw4)));((have hE4:=mK (hE1.out.trans (hx2.out.trans (hx3.trans hx4)))));((have zT:=mK ((hx2.out.trans (hx3.trans hx4)).blk z1.out)));((have g1:=mK (((hf1.out.ext (hx3.trans hx4)).mono hE1.out.size))));((have g2:=mK (((hf2.ext hx4).mono (nT hE1.out.size hx2.out.size)))));((have hS3:=mK (show w.heap.size<w3.heap.size from Nat.lt_of_lt_of_le (Array.getElem?_eq_some_iff.1 z1.out).1 (nT hx2.out.size hx3.size))));((replace hw4:=mK hw4);clear hx2 hx3 hx4 hf1 hf2))
  | ((replace tok:Tok 3:=nxT 2 tok;go_at_call 34;rw [←hw4.out];refine (KW.out _ hE4.out).mono ?_;rintro e w5 ⟨rfl,hR5,hc5⟩);((have hC5:=mK ((Chg.of_ext hE4.out _).trans hc5)));((have zS5:=mK ((hc5.block _ (Array.getElem?_eq_some_iff.1 zS.out).1 (by have:=hS3.out;omega)).trans zS.out)));((have zT5:=mK ((hc5.block _ (Array.getElem?_eq_some_iff.1 zT.out).1 (by omega)).trans zT.out)));((have g15:=mK (g1.out.chR hc5 hrp));(have g25:=mK (g2.out.chR hc5 hrp)));((replace hR5:=mK hR5);clear zS zT g1 g2 hc5))
  | ((replace tok:Tok 4:=nxT 3 tok;go_at_call 35;refine (KF.out _ hR5.out (fun W hW=>hM.out W (hC5.out.trans hW))).mono ?_;rintro e w6 ⟨f,rfl,hR6,hc6,hf6⟩);((have z6:=mK ((hc6.block _ (Array.getElem?_eq_some_iff.1 zS5.out).1 (by have:=hS3.out;omega)).trans zS5.out)));((have t6:=mK ((hc6.block _ (Array.getElem?_eq_some_iff.1 zT5.out).1 (by omega)).trans zT5.out)));((have hl5:=hC5.out.size));((replace hR6:=mK hR6);(have hC6:=mK (hC5.out.trans hc6));(have hf6':=mK (fun x r hx=>(hf6 x r hx).mono hl5));clear hc6 hf6 hl5 g15 g25))
  | ((replace tok:Tok 5:=nxT 4 tok;go_at_call 35;refine (KG.out _ _ hR6.out (fun W hW=>hM.out W (hC6.out.trans hW))).mono ?_;rintro e w7 ⟨g,rfl,hR7,hc7,hf7⟩);((have z7:=(hc7.block _ (Array.getElem?_eq_some_iff.1 z6.out).1 (by have:=hS3.out;omega)).trans z6.out));((have t7:=mK ((hc7.block _ (Array.getElem?_eq_some_iff.1 t6.out).1 (by omega)).trans t6.out)));((have hl6:=hC6.out.size));((obtain ⟨y0,-⟩:=ceL1 z7));((have fz:w7.frozen? ⟨w3.heap.size,0,none⟩=false:=Lib.frozen_of_heap z7 0));((have e1:=mK (fun v=>show w7.setCell ⟨w3.heap.size,0,none⟩ v=w7.setRow w3.heap.size #[v,.bool f1.b1,.slice f1.a1 f1.n1 f1.c1,.bool f1.b2,.slice f1.a2 f1.n2 f1.c2,.bool f2.b1,.slice f2.a1 f2.n1 f2.c1,.bool f2.b2,.slice f2.a2 f2.n2 f2.c2] from (setCell_eq_setRow w7 w3.heap.size 0 _ _ _ v z7).trans rfl)));((replace z7:=mK z7);(replace hR7:=mK hR7);(have hC7:=mK (hC6.out.trans hc7));(have hf7':=mK (fun x r hx=>(hf7 x r hx).mono hl6));(have hf6a:=mK (fun x r hx=>(hf6'.out x r hx).chR hc7 hrp));clear hc7 hf7 hl6))
  | (replace tok:Tok 6:=nxT 5 tok;rw [e1.out];refine Bg rfl 28 (.tmp 40) (.tmp 36) rfl w3.heap.size 1 rfl 72 #[.int .u8 4,.bool f1.b1,.slice f1.a1 f1.n1 f1.c1,.bool f1.b2,.slice f1.a2 f1.n2 f1.c2,.bool f2.b1,.slice f2.a1 f2.n1 f2.c1,.bool f2.b2,.slice f2.a2 f2.n2 f2.c2] #[.int .u8 4,.bool f.b1,.slice f.a1 f.n1 f.c1,.bool f.b2,.slice f.a2 f.n2 f.c2,.bool f2.b1,.slice f2.a1 f2.n1 f2.c1,.bool f2.b2,.slice f2.a2 f2.n2 f2.c2] #[.bool f.b1,.slice f.a1 f.n1 f.c1,.bool f.b2,.slice f.a2 f.n2 f.c2] rfl (setRow_heap _ _ _ _ _ _ z7.out) (by kernel_rfl) (by simp) (by kernel_rfl) (by kernel_rfl) ?_)
  | (replace tok:Tok 7:=nxT 6 tok;refine Bg rfl 28 (.tmp 41) (.tmp 38) rfl w3.heap.size 5 rfl 72 #[.int .u8 4,.bool f.b1,.slice f.a1 f.n1 f.c1,.bool f.b2,.slice f.a2 f.n2 f.c2,.bool f2.b1,.slice f2.a1 f2.n1 f2.c1,.bool f2.b2,.slice f2.a2 f2.n2 f2.c2] #[.int .u8 4,.bool f.b1,.slice f.a1 f.n1 f.c1,.bool f.b2,.slice f.a2 f.n2 f.c2,.bool g.b1,.slice g.a1 g.n1 g.c1,.bool g.b2,.slice g.a2 g.n2 g.c2] #[.bool g.b1,.slice g.a1 g.n1 g.c1,.bool g.b2,.slice g.a2 g.n2 g.c2] rfl (setRow_heap _ _ _ _ _ _ (setRow_heap _ _ _ _ _ _ z7.out)) (by kernel_rfl) (by simp) (by kernel_rfl) (by kernel_rfl) ?_)
  | (replace tok:Tok 8:=nxT 7 tok;refine wpList_load_row (by rfl) 72 (.tmp 3) rfl (w3.heap.size) rfl 72 #[.int .u8 4,.bool f.b1,.slice f.a1 f.n1 f.c1,.bool f.b2,.slice f.a2 f.n2 f.c2,.bool g.b1,.slice g.a1 g.n1 g.c1,.bool g.b2,.slice g.a2 g.n2 g.c2] (0,0) _ (setRow_heap _ _ _ _ _ _ (setRow_heap _ _ _ _ _ _ (setRow_heap _ _ _ _ _ _ z7.out))) Tryz.underlying72 rfl (by kernel_rfl) ?_)
  | ((have _t:Tok 8:=tok);clear _t;clear tok;refine wpList_store_row rfl 72 (.tmp 2) (.tmp 45) rfl (w.heap.size) #[.int .u8 4,.bool f.b1,.slice f.a1 f.n1 f.c1,.bool f.b2,.slice f.a2 f.n2 f.c2,.bool g.b1,.slice g.a1 g.n1 g.c1,.bool g.b2,.slice g.a2 g.n2 g.c2] rfl rfl 72 _ ((setRow_other _ _ _ _ (by have:=hS3.out;omega)).trans ((setRow_other _ _ _ _ (by have:=hS3.out;omega)).trans ((setRow_other _ _ _ _ (by have:=hS3.out;omega)).trans t7.out))) (by kernel_rfl) rfl (by kernel_rfl) ?_))
 have q7:(w7.setRow w3.heap.size #[.int .u8 4,.bool f1.b1,.slice f1.a1 f1.n1 f1.c1,.bool f1.b2,.slice f1.a2 f1.n2 f1.c2,.bool f2.b1,.slice f2.a1 f2.n1 f2.c1,.bool f2.b2,.slice f2.a2 f2.n2 f2.c2]).heap[w3.heap.size]? = some (.cells #[.int .u8 4,.bool f1.b1,.slice f1.a1 f1.n1 f1.c1,.bool f1.b2,.slice f1.a2 f1.n2 f1.c2,.bool f2.b1,.slice f2.a1 f2.n1 f2.c1,.bool f2.b2,.slice f2.a2 f2.n2 f2.c2] 72 (0,0)):=setRow_heap _ _ _ _ _ _ z7.out;have q8:((w7.setRow w3.heap.size #[.int .u8 4,.bool f1.b1,.slice f1.a1 f1.n1 f1.c1,.bool f1.b2,.slice f1.a2 f1.n2 f1.c2,.bool f2.b1,.slice f2.a1 f2.n1 f2.c1,.bool f2.b2,.slice f2.a2 f2.n2 f2.c2]).setRow w3.heap.size #[.int .u8 4,.bool f.b1,.slice f.a1 f.n1 f.c1,.bool f.b2,.slice f.a2 f.n2 f.c2,.bool f2.b1,.slice f2.a1 f2.n1 f2.c1,.bool f2.b2,.slice f2.a2 f2.n2 f2.c2]).heap[w3.heap.size]? = some (.cells #[.int .u8 4,.bool f.b1,.slice f.a1 f.n1 f.c1,.bool f.b2,.slice f.a2 f.n2 f.c2,.bool f2.b1,.slice f2.a1 f2.n1 f2.c1,.bool f2.b2,.slice f2.a2 f2.n2 f2.c2] 72 (0,0)):=setRow_heap _ _ _ _ _ _ q7;have q9:(((w7.setRow w3.heap.size #[.int .u8 4,.bool f1.b1,.slice f1.a1 f1.n1 f1.c1,.bool f1.b2,.slice f1.a2 f1.n2 f1.c2,.bool f2.b1,.slice f2.a1 f2.n1 f2.c1,.bool f2.b2,.slice f2.a2 f2.n2 f2.c2]).setRow w3.heap.size #[.int .u8 4,.bool f.b1,.slice f.a1 f.n1 f.c1,.bool f.b2,.slice f.a2 f.n2 f.c2,.bool f2.b1,.slice f2.a1 f2.n1 f2.c1,.bool f2.b2,.slice f2.a2 f2.n2 f2.c2]).setRow w3.heap.size #[.int .u8 4,.bool f.b1,.slice f.a1 f.n1 f.c1,.bool f.b2,.slice f.a2 f.n2 f.c2,.bool g.b1,.slice g.a1 g.n1 g.c1,.bool g.b2,.slice g.a2 g.n2 g.c2]).heap[w.heap.size]? = some (.cells #[.int .u8 0,.bool false,.slice none 0 0,.bool false,.slice none 0 0,.bool false,.slice none 0 0,.bool false,.slice none 0 0] 72 (0,0)):=(setRow_other _ _ _ _ (by have:=hS3.out;omega)).trans ((setRow_other _ _ _ _ (by have:=hS3.out;omega)).trans ((setRow_other _ _ _ _ (by have:=hS3.out;omega)).trans t7.out))
 refine bodyPost_ret (results_cell_row rfl _ _ w.heap.size 72 #[.int .u8 4,.bool f.b1,.slice f.a1 f.n1 f.c1,.bool f.b2,.slice f.a2 f.n2 f.c2,.bool g.b1,.slice g.a1 g.n1 g.c1,.bool g.b2,.slice g.a2 g.n2 g.c2] (0,0) _ rfl (setRow_heap _ _ _ _ _ _ q9) Tryz.underlying72 rfl (by kernel_rfl)) rfl ⟨4,f,g,2,rfl,?_,?_,fun x r h=>?_⟩
 ·have:=(((hR7.out.set z7.out (by decide) (by have:=hS3.out;omega) #[.int .u8 4,.bool f1.b1,.slice f1.a1 f1.n1 f1.c1,.bool f1.b2,.slice f1.a2 f1.n2 f1.c2,.bool f2.b1,.slice f2.a1 f2.n1 f2.c1,.bool f2.b2,.slice f2.a2 f2.n2 f2.c2]).set q7 (by decide) (by have:=hS3.out;omega) #[.int .u8 4,.bool f.b1,.slice f.a1 f.n1 f.c1,.bool f.b2,.slice f.a2 f.n2 f.c2,.bool f2.b1,.slice f2.a1 f2.n1 f2.c1,.bool f2.b2,.slice f2.a2 f2.n2 f2.c2]).set q8 (by decide) (by have:=hS3.out;omega) #[.int .u8 4,.bool f.b1,.slice f.a1 f.n1 f.c1,.bool f.b2,.slice f.a2 f.n2 f.c2,.bool g.b1,.slice g.a1 g.n1 g.c1,.bool g.b2,.slice g.a2 g.n2 g.c2]).set q9 (by decide) (by omega) #[.int .u8 4,.bool f.b1,.slice f.a1 f.n1 f.c1,.bool f.b2,.slice f.a2 f.n2 f.c2,.bool g.b1,.slice g.a1 g.n1 g.c1,.bool g.b2,.slice g.a2 g.n2 g.c2]
  rw [tt2] at this;simpa using this
 ·refine ((hC7.out.mono (T:=fun k=>k=rp∨w.heap.size≤k) fun k _ hk=>.inl hk).trans (((Aq w7 w3.heap.size _).mono fun k _ hk=>.inr (by have:=hS3.out;omega)).trans (((Aq _ w3.heap.size _).mono fun k _ hk=>.inr (by have:=hS3.out;omega)).trans (((Aq _ w3.heap.size _).mono fun k _ hk=>.inr (by have:=hS3.out;omega)).trans ((Aq _ w.heap.size _).mono fun k _ hk=>.inr (by omega)))))).mono fun k hk h=>?_
  rcases h with h|h
  ·exact h
  ·omega
 ·simp only [Option.bind_eq_some_iff,Option.map_eq_some_iff,Prod.mk.injEq] at h
  obtain ⟨⟨y,r1⟩,hy,⟨z,r2⟩,hz,rfl,rfl⟩:=h;obtain rfl:=(De hy).2.2;refine ⟨by rw [(De hz).2.2];exact tt2 t,rfl,((((hf6a.out _ _ hy).stE z7.out _).stE q7 _).stE q8 _).stE q9 _,((((hf7'.out _ _ hz).stE z7.out _).stE q7 _).stE q8 _).stE q9 _⟩
theorem Agr (rp:Nat)(t:WL)(bad:Bool)(w:World)(h:RdS rp (Bm 5::t) bad w) :
  Calls Tryz.prog 38 #[.pointer (some ⟨rp,0,none⟩)] w (TkE rp (Bm 5::t) bad w):=by
 have hrp:=h.lt;have KN:=mK (fun W=>Fa W);obtain ⟨w1,hw1⟩:=nmE (w.alloc (.cells #[.int .u8 0,.bool false,.slice none 0 0,.bool false,.slice none 0 0,.bool false,.slice none 0 0,.bool false,.slice none 0 0] 72));have hE1:=mK (show Ext w w1 by rw [hw1];exact (xR w).al _);have z1:=mK (aL10 hw1);replace hw1:=mK hw1;have hh:=mK h;have KW:Hid (∀ W,Ext w W→Calls Tryz.prog 34 #[.pointer (some ⟨rp,0,none⟩)] W fun e w'=>e=.returned (.string ⟨#[102,108,105,112]⟩)∧RdS rp t bad w'∧Chg W w' (· = rp)):=fun W e=>(Ej rp _ bad W (h.ext e)).mono fun e w' k=>⟨k.1,by simpa using k.2.1,k.2.2⟩
 have hE:=tE_0 (x:=Bm 5) (K:=5) (by decide) (by decide) t;unfold TkE;rw [hE];clear h hE;go_enter Tryz.func38,Tryz.ntmps38;have tok:Tok 0:=.mk _
 go_wp2_with (first
  | (replace tok:Tok 1:=nxT 0 tok;go_at_call 87;rw [←hw1.out];refine (KN.out _).mono ?_;rintro e w2 ⟨f1,rfl,hx2,hf1⟩;(replace hf1:=mK hf1);(replace hx2:=mK hx2))
  | ((replace tok:Tok 2:=nxT 1 tok;go_at_call 87;refine (KN.out _).mono ?_;rintro e w3 ⟨f2,rfl,hx3,hf2⟩);((obtain ⟨w4,hw4⟩:=nmE (w3.alloc (.cells #[.int .u8 0,.bool f1.b1,.slice f1.a1 f1.n1 f1.c1,.bool f1.b2,.slice f1.a2 f1.n2 f1.c2,.bool f2.b1,.slice f2.a1 f2.n1 f2.c1,.bool f2.b2,.slice f2.a2 f2.n2 f2.c2] 72))));((have hx4:Ext w3 w4:=by rw [hw4];exact (xR w3).al _));((have zS:=mK (aL10 hw4)));((have hE4:=mK (hE1.out.trans (hx2.out.trans (hx3.trans hx4)))));((have zT:=mK ((hx2.out.trans (hx3.trans hx4)).blk z1.out)));((have g1:=mK (((hf1.out.ext (hx3.trans hx4)).mono hE1.out.size))));((have g2:=mK (((hf2.ext hx4).mono (nT hE1.out.size hx2.out.size)))));((have hS3:=mK (show w.heap.size<w3.heap.size from Nat.lt_of_lt_of_le (Array.getElem?_eq_some_iff.1 z1.out).1 (nT hx2.out.size hx3.size))));((replace hw4:=mK hw4);clear hx2 hx3 hx4 hf1 hf2))
  | ((replace tok:Tok 3:=nxT 2 tok;go_at_call 34;rw [←hw4.out];refine (KW.out _ hE4.out).mono ?_;rintro e w5 ⟨rfl,hR5,hc5⟩);((have hC5:=mK ((Chg.of_ext hE4.out _).trans hc5)));((have zS5:=mK ((hc5.block _ (Array.getElem?_eq_some_iff.1 zS.out).1 (by have:=hS3.out;omega)).trans zS.out)));((have zT5:=mK ((hc5.block _ (Array.getElem?_eq_some_iff.1 zT.out).1 (by omega)).trans zT.out)));((have g15:=mK (g1.out.chR hc5 hrp));(have g25:=mK (g2.out.chR hc5 hrp)));((replace hR5:=mK hR5);clear zS zT g1 g2 hc5))
  | ((replace tok:Tok 4:=nxT 3 tok);((obtain ⟨y0,-⟩:=ceL1 zS5.out));((have fz:w5.frozen? ⟨w3.heap.size,0,none⟩=false:=Lib.frozen_of_heap zS5.out 0));((have e1:=mK (fun v=>show w5.setCell ⟨w3.heap.size,0,none⟩ v=w5.setRow w3.heap.size #[v,.bool f1.b1,.slice f1.a1 f1.n1 f1.c1,.bool f1.b2,.slice f1.a2 f1.n2 f1.c2,.bool f2.b1,.slice f2.a1 f2.n1 f2.c1,.bool f2.b2,.slice f2.a2 f2.n2 f2.c2] from (setCell_eq_setRow w5 w3.heap.size 0 _ _ _ v zS5.out).trans rfl))))
  | (replace tok:Tok 5:=nxT 4 tok;rw [e1.out];refine wpList_load_row (by rfl) 72 (.tmp 3) rfl (w3.heap.size) rfl 72 #[.int .u8 5,.bool f1.b1,.slice f1.a1 f1.n1 f1.c1,.bool f1.b2,.slice f1.a2 f1.n2 f1.c2,.bool f2.b1,.slice f2.a1 f2.n1 f2.c1,.bool f2.b2,.slice f2.a2 f2.n2 f2.c2] (0,0) _ (setRow_heap _ _ _ _ _ _ zS5.out) Tryz.underlying72 rfl (by kernel_rfl) ?_)
  | ((have _t:Tok 5:=tok);clear _t;clear tok;refine wpList_store_row rfl 72 (.tmp 2) (.tmp 45) rfl (w.heap.size) #[.int .u8 5,.bool f1.b1,.slice f1.a1 f1.n1 f1.c1,.bool f1.b2,.slice f1.a2 f1.n2 f1.c2,.bool f2.b1,.slice f2.a1 f2.n1 f2.c1,.bool f2.b2,.slice f2.a2 f2.n2 f2.c2] rfl rfl 72 _ ((setRow_other _ _ _ _ (by have:=hS3.out;omega)).trans zT5.out) (by kernel_rfl) rfl (by kernel_rfl) ?_))
 have q8:(w5.setRow w3.heap.size #[.int .u8 5,.bool f1.b1,.slice f1.a1 f1.n1 f1.c1,.bool f1.b2,.slice f1.a2 f1.n2 f1.c2,.bool f2.b1,.slice f2.a1 f2.n1 f2.c1,.bool f2.b2,.slice f2.a2 f2.n2 f2.c2]).heap[w.heap.size]? = some (.cells #[.int .u8 0,.bool false,.slice none 0 0,.bool false,.slice none 0 0,.bool false,.slice none 0 0,.bool false,.slice none 0 0] 72 (0,0)):=(setRow_other _ _ _ _ (by have:=hS3.out;omega)).trans zT5.out;refine bodyPost_ret (results_cell_row rfl _ _ w.heap.size 72 #[.int .u8 5,.bool f1.b1,.slice f1.a1 f1.n1 f1.c1,.bool f1.b2,.slice f1.a2 f1.n2 f1.c2,.bool f2.b1,.slice f2.a1 f2.n1 f2.c1,.bool f2.b2,.slice f2.a2 f2.n2 f2.c2] (0,0) _ rfl (setRow_heap _ _ _ _ _ _ q8) Tryz.underlying72 rfl (by kernel_rfl)) rfl ⟨5,f1,f2,0,rfl,?_,?_,fun x r h=>?_⟩
 ·have:=(hR5.out.set zS5.out (by decide) (by have:=hS3.out;omega) #[.int .u8 5,.bool f1.b1,.slice f1.a1 f1.n1 f1.c1,.bool f1.b2,.slice f1.a2 f1.n2 f1.c2,.bool f2.b1,.slice f2.a1 f2.n1 f2.c1,.bool f2.b2,.slice f2.a2 f2.n2 f2.c2]).set q8 (by decide) (by omega) #[.int .u8 5,.bool f1.b1,.slice f1.a1 f1.n1 f1.c1,.bool f1.b2,.slice f1.a2 f1.n2 f1.c2,.bool f2.b1,.slice f2.a1 f2.n1 f2.c1,.bool f2.b2,.slice f2.a2 f2.n2 f2.c2]
  simpa using this
 ·refine ((hC5.out.mono (T:=fun k=>k=rp∨w.heap.size≤k) fun k _ hk=>.inl hk).trans (((Aq w5 w3.heap.size _).mono fun k _ hk=>.inr (by have:=hS3.out;omega)).trans ((Aq _ w.heap.size _).mono fun k _ hk=>.inr (by omega)))).mono fun k hk h=>?_
  rcases h with h|h
  ·exact h
  ·omega
 ·simp only [Option.some.injEq,Prod.mk.injEq] at h
  obtain ⟨rfl,rfl⟩:=h;exact ⟨rfl,rfl,(g15.out.stE zS5.out _).stE q8 _,(g25.out.stE zS5.out _).stE q8 _⟩
theorem Lu (rp:Nat)(R:WL)(bad:Bool)(w:World)(h:RdS rp R bad w)(hs:∀ x∈R,x.length≤65536)(hm:∀ W,Chg w W (· = rp)→Max0 W) :
  Calls Tryz.prog 38 #[.pointer (some ⟨rp,0,none⟩)] w (TkE rp R bad w):=by
 cases hk:Fm (R.headD []) with
 | none=>exact Ac9 rp R bad w h hk
 | some K=>
  cases R with
  | nil=>
   have h0:Fm ([]:List UInt8)=none:=by decide
   rw [show ([]:WL).headD []=[] from rfl,h0] at hk;cases hk
  | cons x t=>
   have hs':∀ y∈t,y.length≤65536:=fun y hy=>hs y (List.mem_cons_of_mem _ hy);have hx:Bm K=x:=Ry hk
   have hK:K=1∨K=2∨K=3∨K=4∨K=5:=by
    have h5:Fm x=some K:=hk;unfold Fm at h5
    repeat' split at h5
    all_goals first
     | (cases h5;simp)
     | cases h5
   subst hx;rcases hK with rfl|rfl|rfl|rfl|rfl
   ·exact Agv rp t bad w h hs' hm
   ·exact Agu rp t bad w h hs' hm
   ·exact Agt rp t bad w h hs' hm
   ·exact Ags rp t bad w h hs' hm
   ·exact Agr rp t bad w h
def Ty (b:Nat)(E:TypeId)(w w':World):Prop:=∀ g cs,b≤g→w.heap[g]? = some (.cells cs E (0,0))→w'.heap[g]? = some (.cells cs E (0,0))
theorem Ty.trans {b:Nat}{E:TypeId}{w1 w2 w3:World}(h:Ty b E w1 w2)(k:Ty b E w2 w3):Ty b E w1 w3:=fun g cs hb hg=>k g cs hb (h g cs hb hg)
theorem Ty.of_ext {b:Nat}{E:TypeId}{w w':World}(h:Ext w w'):Ty b E w w':=fun _ _ _ hg=>h.blk hg
theorem Ty.of_chg {b:Nat}{E:TypeId}{w w':World}{S:Nat→Prop}(h:Chg w w' S)(hS:∀ k,S k→k<b):Ty b E w w':=fun g _ hb hg=>
 (h.block g (Array.getElem?_eq_some_iff.1 hg).1 fun hs=>by have:=hS g hs;omega).trans hg
theorem Ty.grown {b:Nat}{E E':TypeId}{w w':World}{row:Option Nat}(h:w.grownBy w' row)(hr:∀ g,row=some g→∃ cs,w.heap[g]? = some (.cells cs E' (0,0)))(hE:E'≠E):Ty b E w w':=fun g cs _ hg=>
 (h.block g (Array.getElem?_eq_some_iff.1 hg).1 fun e=>by
  obtain ⟨cs',h'⟩:=hr g e.symm
  rw [hg] at h'
  cases h'
  exact hE rfl).trans hg
theorem Aa7 {w w':World}{base E n m:Nat}{v:Value}{xs:List Value}(h:w.ownsRow base E n v m xs)(k:Ty base E w w'):w'.ownsRow base E n v m xs:=by
 obtain ⟨h1,h2|⟨g,cap,cur,e,hb,hg,r⟩⟩:=h
 ·exact ⟨h1,.inl h2⟩
 ·exact ⟨h1,.inr ⟨g,cap,cur,e,hb,k g cur hb hg,r⟩⟩
theorem Nq {w:World}{base E n m:Nat}{v:Value}{xs:List Value}(h:w.ownsRow base E n v m xs):∀ g,v.ownBlock=some g→(∃ cs,w.heap[g]? = some (.cells cs E (0,0)))∧base≤g:=by
 intro g hg;rcases h.2 with ⟨e,_⟩|⟨k,cap,cur,e,h1,h2,_⟩
 ·rw [e] at hg;cases hg
 ·rw [e] at hg
  cases hg;exact ⟨⟨_,h2⟩,h1⟩
theorem IntO.ty {w w':World}{b:Nat}{v:Value}{x:Int}(h:IntO w b v x)(k:Ty b 150 w w'):IntO w' b v x:=by
 obtain ⟨s,e,hm⟩:=h;exact ⟨s,e,Aa7 hm k⟩
theorem FracO.ty {w w':World}{b:Nat}{v:Value}{q:Rat}(h:FracO w b v q)(k:Ty b 150 w w'):FracO w' b v q:=by
 obtain ⟨b1,a1,n1,c1,b2,a2,n2,c2,h1,h2,h3⟩:=h;exact ⟨b1,a1,n1,c1,b2,a2,n2,c2,h1,h2.ty k,h3.ty k⟩
theorem Lo.ty {α:Type}{n:Nat}{E:TypeId}{R:World→Value→α→Prop}{lo:Nat}{w w':World}{s:Value}{os:List (α×Value)}(h:Lo n E R lo w s os)(k:Ty lo E w w')(hR:∀ v a,R w v a→R w' v a):Lo n E R lo w' s os:=
 ⟨Aa7 h.row k,fun x hx=>hR _ _ (h.it x hx),h.sz⟩
/-! Items. -/
def FrI (b:Nat)(w:World)(v:Value)(q:Rat):Prop:=FracO w b v q∧nf q≤2048
def ElI (b:Nat)(w:World)(v:Value)(e:EL):Prop:=∃ p q:FV,v=.agg #[.int .u8 e.kd,.bool p.b1,.slice p.a1 p.n1 p.c1,.bool p.b2,.slice p.a2 p.n2 p.c2,.bool q.b1,.slice q.a1 q.n1 q.c1,.bool q.b2,.slice q.a2 q.n2 q.c2]∧FrI b w (.agg #[.bool p.b1,.slice p.a1 p.n1 p.c1,.bool p.b2,.slice p.a2 p.n2 p.c2]) e.p∧FrI b w (.agg #[.bool q.b1,.slice q.a1 q.n1 q.c1,.bool q.b2,.slice q.a2 q.n2 q.c2]) e.q
def PrI (b:Nat)(w:World)(v:Value)(d:PD):Prop:=∃ p q:FV,v=.agg #[.string d.nm,.int .u8 d.kd,.bool p.b1,.slice p.a1 p.n1 p.c1,.bool p.b2,.slice p.a2 p.n2 p.c2,.bool q.b1,.slice q.a1 q.n1 q.c1,.bool q.b2,.slice q.a2 q.n2 q.c2,.int .i64 d.co]∧FrI b w (.agg #[.bool p.b1,.slice p.a1 p.n1 p.c1,.bool p.b2,.slice p.a2 p.n2 p.c2]) d.p∧FrI b w (.agg #[.bool q.b1,.slice q.a1 q.n1 q.c1,.bool q.b2,.slice q.a2 q.n2 q.c2]) d.q∧d.nm.size≤140737488355328
theorem FrI.ty {w w':World}{b:Nat}{v:Value}{q:Rat}(h:FrI b w v q)(k:Ty b 150 w w'):FrI b w' v q:=⟨h.1.ty k,h.2⟩
theorem ElI.ty {w w':World}{b:Nat}{v:Value}{e:EL}(h:ElI b w v e)(k:Ty b 150 w w'):ElI b w' v e:=by
 obtain ⟨p,q,e0,h1,h2⟩:=h;exact ⟨p,q,e0,h1.ty k,h2.ty k⟩
theorem PrI.ty {w w':World}{b:Nat}{v:Value}{d:PD}(h:PrI b w v d)(k:Ty b 150 w w'):PrI b w' v d:=by
 obtain ⟨p,q,e0,h1,h2,h3⟩:=h;exact ⟨p,q,e0,h1.ty k,h2.ty k,h3⟩
theorem FrI.any {w:World}{b:Nat}{v:Value}{q:Rat}(h:FrI b w v q):AnyF w v (some q):=by
 have:=h.1.r.any (nT h.2 (by decide))
 rwa [if_pos h.2] at this
theorem ElI.any {w:World}{b:Nat}{v:Value}{e:EL}(h:ElI b w v e):EltA w v (embE e):=by
 obtain ⟨p,q,e0,h1,h2⟩:=h;exact ⟨p,q,e0,h1.any,h2.any⟩
theorem PrI.any {w:World}{b:Nat}{v:Value}{d:PD}(h:PrI b w v d):PrtA w v (embP d):=by
 obtain ⟨p,q,e0,h1,h2,h3⟩:=h;exact ⟨p,q,e0,h1.any,h2.any,h3⟩
def FrS (b:Nat)(w:World)(f:FV)(o:Option Rat):Prop:=(o=none∧f=⟨false,none,0,0,false,none,0,0⟩)∨∃ q,o=some q∧FrI b w (.agg #[.bool f.b1,.slice f.a1 f.n1 f.c1,.bool f.b2,.slice f.a2 f.n2 f.c2]) q
theorem FrS.ty {w w':World}{b:Nat}{f:FV}{o:Option Rat}(h:FrS b w f o)(k:Ty b 150 w w'):FrS b w' f o:=by
 rcases h with h|⟨q,e,h⟩
 ·exact .inl h
 ·exact .inr ⟨q,e,h.ty k⟩
theorem FrS.any {w:World}{b:Nat}{f:FV}{o:Option Rat}(h:FrS b w f o):AnyF w (.agg #[.bool f.b1,.slice f.a1 f.n1 f.c1,.bool f.b2,.slice f.a2 f.n2 f.c2]) o:=by
 rcases h with ⟨rfl,rfl⟩|⟨q,rfl,h⟩
 ·exact Sr w
 ·exact h.any
theorem Sf (b:Nat)(w:World):FrS b w ⟨false,none,0,0,false,none,0,0⟩ none:=.inl ⟨rfl,rfl⟩
structure OwnPf (b:Nat) (w:World) (x:PVd) (d:AD):Prop where
 sp:∃ os:List (Rat×Value),d.sp=os.map (fun z=>some z.1)∧Lo 4 28 (FrI b) b w x.s2 os
 pt:∃ os:List (PD×Value),d.pt=os.map (fun z=>embP z.1)∧Lo 11 74 (PrI b) b w x.s3 os
 pk:∃ os:List (Int×Value),d.pk=os.map (·.1)∧Lo 1 3 NumA b w x.s4 os
 fy:FrS b w x.y d.oy
 fu:FrS b w x.u d.ou
 fm:FrS b w x.m d.om
 ft:FrS b w x.tg d.ot
 fp:FrS b w x.pw d.op
 co:x.co≤9223372036854775807
structure TyA (b:Nat) (w w':World):Prop where
 u:Ty b 150 w w'
 f:Ty b 28 w w'
 p:Ty b 74 w w'
 i:Ty b 3 w w'
theorem TyA.trans {b:Nat}{w1 w2 w3:World}(h:TyA b w1 w2)(k:TyA b w2 w3):TyA b w1 w3:=⟨h.u.trans k.u,h.f.trans k.f,h.p.trans k.p,h.i.trans k.i⟩
theorem TyA.of_ext {b:Nat}{w w':World}(h:Ext w w'):TyA b w w':=⟨.of_ext h,.of_ext h,.of_ext h,.of_ext h⟩
theorem TyA.of_chg {b:Nat}{w w':World}{S:Nat→Prop}(h:Chg w w' S)(hS:∀ k,S k→k<b):TyA b w w':=⟨.of_chg h hS,.of_chg h hS,.of_chg h hS,.of_chg h hS⟩
theorem OwnPf.ty {b:Nat}{w w':World}{x:PVd}{d:AD}(h:OwnPf b w x d)(k:TyA b w w'):OwnPf b w' x d:=by
 obtain ⟨⟨o1,e1,h1⟩,⟨o2,e2,h2⟩,⟨o3,e3,h3⟩,h4,h5,h6,h7,h8,h9⟩:=h;exact ⟨⟨o1,e1,h1.ty k.f fun _ _ x=>x.ty k.u⟩,⟨o2,e2,h2.ty k.p fun _ _ x=>x.ty k.u⟩,⟨o3,e3,h3.ty k.i fun _ _ x=>x⟩,h4.ty k.u,h5.ty k.u,h6.ty k.u,h7.ty k.u,h8.ty k.u,h9⟩
theorem OwnPf.any {b:Nat}{w:World}{x:PVd}{d:AD}(h:OwnPf b w x d)(hb:∃ os:List (RE×Value),os.map (·.1)=d.be∧Ls 9 EltA w x.s1 os):AnyPf w x d:=by
 obtain ⟨⟨o1,e1,h1⟩,⟨o2,e2,h2⟩,⟨o3,e3,h3⟩,h4,h5,h6,h7,h8,h9⟩:=h;refine ⟨hb,⟨o1.map fun z=>(some z.1,z.2),?_,?_⟩,⟨o2.map fun z=>(embP z.1,z.2),?_,?_⟩,⟨o3,e3.symm,h3.ls⟩,h4.any,h5.any,h6.any,h7.any,h8.any,h9⟩
 ·rw [e1,List.map_map]
  rfl
 ·exact h1.ls.map some fun _ _ hr=>hr.any
 ·rw [e2,List.map_map]
  rfl
 ·exact h2.ls.map embP fun _ _ hr=>hr.any
/-! A list that is appended to. -/
theorem Wr:(Tryz.prog.info? 72).map (fun i=>(i.zero,i.size,i.bytes))=some (some (.agg #[.int .u8 0,.bool false,.slice none 0 0,.bool false,.slice none 0 0,.bool false,.slice none 0 0,.bool false,.slice none 0 0]),9,136):=by kernel_rfl
theorem Ad7:(Tryz.prog.info? 28).map (fun i=>(i.zero,i.size,i.bytes))=some (some (.agg #[.bool false,.slice none 0 0,.bool false,.slice none 0 0]),4,64):=by kernel_rfl
theorem Ad6:(Tryz.prog.info? 74).map (fun i=>(i.zero,i.size,i.bytes))=some (some Zw,11,160):=by kernel_rfl
theorem Ab2:(Tryz.prog.info? 3).map (fun i=>(i.zero,i.size,i.bytes))=some (some (.int .i64 0),1,8):=by kernel_rfl
theorem Kq {P:Program}{e:TypeId}{z:Value}{s b:Nat}(h:(P.info? e).map (fun i=>(i.zero,i.size,i.bytes))=some (some z,s,b)):∃ i,P.info? e=some i∧i.zero=some z∧i.size=s∧i.bytes=b:=by
 obtain ⟨i,hi,he⟩:=Option.map_eq_some_iff.1 h;simp only [Prod.mk.injEq] at he;exact ⟨i,hi,he.1,he.2.1,he.2.2⟩
theorem Le {α:Type}{n E sl bytes:Nat}{z:Value}{R:World→Value→α→Prop}{b:Nat}{W:World}{s:Value}{os:List (α×Value)}(hu:Tryz.prog.underlying sl=some (.slice E))(hi:(Tryz.prog.info? E).map (fun i=>(i.zero,i.size,i.bytes))=some (some z,n,bytes))(hz:z.cells.size=n)(hn:0<n)(hby:bytes≤160)
  (h:Lo n E R b W s os) (hb:b≤W.heap.size) (hl:os.length≤1000000) (v:Value) (hv:v.cells.size=n) (hv1:∀ u∈v.cells.toList,u.oneCell'=true) :
  ∃ s' W',(Builtin.append_ #[sl,sl] sl #[s,.slice (some ⟨W.heap.size,0,none⟩) 1 1]).run Tryz.prog (W.alloc (.cells v.cells E))=.ok s' W'∧W'.ownsRow b E n s' (os.length+1) (cv (os.map (·.2))++v.cells.toList)∧(W.alloc (.cells v.cells E)).grownBy W' s.ownBlock ∧
   (∀ g,s.ownBlock=some g→(∃ cs,(W.alloc (.cells v.cells E)).heap[g]? = some (.cells cs E (0,0)))∧b≤g):=by
 obtain ⟨i0,hi0,hz0,hz1,hz2⟩:=Kq hi;have hx:=(xR W).al (.cells v.cells E);have hr:=Ca h.row hx
 obtain ⟨s',W',h1,h2,h3,-,-⟩:=run_append_own_at (P:=Tryz.prog) (W.alloc (.cells v.cells E)) b sl sl E i0 z n bytes hu hi0 hz0 hz1 hz2 hz hn s os.length _ hr ⟨W.heap.size,0,none⟩ 1 1 v.cells.toList (by simp [hv]) (by
   have:=Mc W v.cells.toList E
   simpa using this) hv1 (by unfold maxLen;omega) (by
   have:(os.length+1)*bytes≤1000001*160:=Nat.mul_le_mul (by omega) hby
   omega) (by simp;omega)
 exact ⟨s',W',h1,h2,h3,Nq hr⟩
end Go.Proofs.YtlknpnommcohkaaGreatDoor
namespace Go.Proofs.YtlknpnommcohkaaGreatDoor
set_option maxRecDepth 100000
open Go Go.RowKit Go.Proofs Go.Lib
theorem Uu (x:PVd)(d:AD)(l:List EL)(y u m:Rat)(n0:Int)(w:World)(h:AnyPf w x d)(hb:d.be.length≤1099511627776∧d.sp.length≤1099511627776∧d.pt.length≤1099511627776∧d.pk.length≤1099511627776)(hm:Bw x d=true)
  (hf:PfR w x (.leaves l y u m n0)) (hok:okPF (.leaves l y u m n0)) (hT:∀ W,Ext w W→Tab10 W) :
  Calls Tryz.prog 8 #[.agg (pfC x)] w (EncQ (.leaves l y u m n0) w):=by
 obtain ⟨w1,hw1⟩:=nmE (w.alloc (.cells (pfC x) 39));have hE1:=aLe1 hw1;have zP:=aL10 hw1;have hs1:=aLs1 hw1;have KM:=Jx x d w1 (h.ext hE1) hb;rw [hm] at KM;have zE:=mK (fun W (e:Ext w1 W)=>e.blk zP);have cE:=mK (fun W (e:Ext w1 W)=>Em (e.blk zP));have HT:=mK (fun W (e:Ext w1 W)=>hT W (hE1.trans e));clear h hb hm zP hT;obtain ⟨k1,⟨os,hos,gL⟩,fy,fu,fm,hst,-,-,-,-,-,-⟩:=hf;obtain ⟨hol,gy,gu,gm,gn0,gn1⟩:=hok;subst hos;obtain ⟨a1,c1,e1,hc1⟩:=gL.slice;have HL:=mK (fun W (e:Ext w1 W)=>Ls.ext (w':=W) gL (fun _ _ v=>v.ext (hE1.trans e)) (hE1.trans e));have FY:=mK (fun W (e:Ext w1 W)=>fy.ext (hE1.trans e));have FU:=mK (fun W (e:Ext w1 W)=>fu.ext (hE1.trans e));have FM:=mK (fun W (e:Ext w1 W)=>fm.ext (hE1.trans e));obtain ⟨kd,s1,y',u',m',st,s2,s3,tg,s4,pw,co⟩:=x;simp only at k1 e1 fy fu fm hst;subst k1 e1 hst;clear fy fu fm;simp only at FY FU FM;simp only [pfC] at hw1 zE KM ⊢;replace hw1:=mK hw1;replace KM:=mK KM;replace hE1:=mK hE1;go_enter Tryz.func8,Tryz.ntmps8;have tok:Tok 0:=.mk _
 go_upto_region 4 with (first
  | (replace tok:Tok 1:=nxT 0 tok;rw [←hw1.out];refine wpList_load_row (by rfl) 39 (.tmp 1) rfl w.heap.size rfl 39 _ (0,0) _ (zE.out _ (xR _)) Tryz.underlying39 rfl (by kernel_rfl) ?_)
  | (replace tok:Tok 2:=nxT 1 tok;go_at_call 24;refine KM.out.mono ?_;rintro e w2 ⟨rfl,hx2⟩))
 obtain ⟨b,hbs⟩:=nmE w2.heap.size;obtain ⟨lo,hlb⟩:=nmE (b+1);obtain ⟨w3,hw3⟩:=nmE (w2.alloc (.cells #[.pointer none,.slice none 0 0] 66));rw [←hw3,←hbs];have hs3:w3.heap.size=lo:=by rw [hw3,hlb,hbs];simp
 have hb1:w1.heap.size≤b:=by rw [hbs];exact hx2.size
 have hX3:Ext w1 w3:=by rw [hw3];exact hx2.al _
 have hX:=mK (fun W (h:Kw b lo w3 W)=>Uk h hX3 hb1 (by omega));have hI:=mK (show IsWrt lo b (byteCells (Ai 32 [])) w3 from Jp (by omega) (by rw [hw3,hbs];exact heap_alloc_new _ _));have hK:=mK (Kw.refl b lo w3);have hlo:lo≤w3.heap.size:=by omega
 have HTK:Hid (∀ W,Kw b lo w3 W→Tab10 W):=fun W h=>HT.out W (hX.out W h);replace hlo:=mK hlo;replace hs3:=mK hs3;replace hlb:=mK hlb;replace hb1:=mK hb1;clear hw3 hbs KM hx2 hX3 hw1 tok;obtain ⟨y0,-⟩:=cE.out w3 (hX.out w3 (Kw.refl _ _ _))
 have KP:=Nn [] Bv (.slice (some ⟨w3.heap.size,0,none⟩) 3 3) [(y,.agg #[.bool y'.b1,.slice y'.a1 y'.n1 y'.c1,.bool y'.b2,.slice y'.a2 y'.n2 y'.c2]),(u,.agg #[.bool u'.b1,.slice u'.a1 u'.n1 u'.c1,.bool u'.b2,.slice u'.a2 u'.n2 u'.c2]),(m,.agg #[.bool m'.b1,.slice m'.a1 m'.n1 m'.c1,.bool m'.b2,.slice m'.a2 m'.n2 m'.c2])] (w3.alloc (.cells #[.bool y'.b1,.slice y'.a1 y'.n1 y'.c1,.bool y'.b2,.slice y'.a2 y'.n2 y'.c2,.bool u'.b1,.slice u'.a1 u'.n1 u'.c1,.bool u'.b2,.slice u'.a2 u'.n2 u'.c2,.bool m'.b1,.slice m'.a1 m'.n1 m'.c1,.bool m'.b2,.slice m'.a2 m'.n2 m'.c2] 28)) (hI.out.ext ((xR _).al _)) (Kw.of _ _ ((xR w3).al _)) hlo.out (.inl rfl)
  (fun W' h3 h=>ls3 (h.blk (heap_alloc_new _ _) (by have:=hs3.out;have:=hlb.out;omega) (by decide)) (FY.out W' (hX.out W' h3)) (FU.out W' (hX.out W' h3)) (FM.out W' (hX.out W' h3)))
  (fun z hz=>by
   simp only [List.mem_cons,List.not_mem_nil,or_false] at hz;rcases hz with rfl|rfl|rfl
   ·exact gy
   ·exact gu
   ·exact gm) (by simp [Ai,Bv]) HTK.out
 have KP:Hid (Calls Tryz.prog 25 #[.pointer (some ⟨b,0,none⟩),.string ⟨#[108,101,97,118,101,115]⟩,.slice (some ⟨w3.heap.size,0,none⟩) 3 3] (w3.alloc (.cells #[.bool y'.b1,.slice y'.a1 y'.n1 y'.c1,.bool y'.b2,.slice y'.a2 y'.n2 y'.c2,.bool u'.b1,.slice u'.a1 u'.n1 u'.c1,.bool u'.b2,.slice u'.a2 u'.n2 u'.c2,.bool m'.b1,.slice m'.a1 m'.n1 m'.c1,.bool m'.b2,.slice m'.a2 m'.n2 m'.c2] 28)) fun e w'=>e=.returned (.tuple #[])∧IsWrt lo b (byteCells (Ai 32 (Bv::[An y,An u,An m]))) w'∧Kw b lo w3 w'):=KP;have KI:=mK (fun W (e:Ext w1 W)=>Je st W (by omega) (by omega) (HT.out W e));have hil:(Lib.itoa st).length≤10:=Eh gn0 (by omega)
 have KQ:=mK (fun W (hI:IsWrt lo b (byteCells (Ai 32 [Bv,An y,An u,An m])) W) (hK:Kw b lo w3 W)=>Lx [Bv,An y,An u,An m] (Lib.itoa st) W hI hK hlo.out (by simp [Ai,Bv]) (by
  have h1:=Bu gy;have h2:=Bu gu;have h3:=Bu gm;have h4:=Eb [Bv,An y,An u,An m];simp only [lenW,Bv,List.length_cons,List.length_nil] at h4 ⊢
  omega) HTK.out)
 have zE3:=mK (zE.out w3 (hX.out w3 (Kw.refl _ _ _)));have tok:Tok 2:=.mk _
 go_upto_region 28 with (first
  | (replace tok:Tok 3:=nxT 2 tok;refine Ag (by rfl) 28 (.tmp 33) rfl w.heap.size 2 rfl 39 _ #[.bool y'.b1,.slice y'.a1 y'.n1 y'.c1,.bool y'.b2,.slice y'.a2 y'.n2 y'.c2] (0,0) _ zE3.out rfl Tryz.underlying28 rfl (by kernel_rfl) ?_)
  | (replace tok:Tok 4:=nxT 3 tok;refine Ag (by rfl) 28 (.tmp 36) rfl w.heap.size 6 rfl 39 _ #[.bool u'.b1,.slice u'.a1 u'.n1 u'.c1,.bool u'.b2,.slice u'.a2 u'.n2 u'.c2] (0,0) _ zE3.out rfl Tryz.underlying28 rfl (by kernel_rfl) ?_)
  | (replace tok:Tok 5:=nxT 4 tok;refine Ag (by rfl) 28 (.tmp 38) rfl w.heap.size 10 rfl 39 _ #[.bool m'.b1,.slice m'.a1 m'.n1 m'.c1,.bool m'.b2,.slice m'.a2 m'.n2 m'.c2] (0,0) _ zE3.out rfl Tryz.underlying28 rfl (by kernel_rfl) ?_)
  | (replace tok:Tok 6:=nxT 5 tok;go_at_call 25;refine KP.out.mono ?_;rintro e w5 ⟨rfl,hI5,hK5⟩;(clear hI;have hI:=mK hI5);(clear hK;have hK:=mK hK5);(obtain ⟨-,-,yst,-⟩:=cE.out w5 (hX.out w5 hK5));clear hI5 hK5)
  | (replace tok:Tok 7:=nxT 6 tok;go_at_call 26;refine (KI.out _ (hX.out _ hK.out)).mono ?_;rintro e w6 ⟨rfl,hx6⟩;(have hI6:=mK (hI.out.ext hx6));(have hK6:=mK (hK.out.trans (Kw.of _ _ hx6)));clear hI hK hx6 yst)
  | (replace tok:Tok 8:=nxT 7 tok;go_at_call 25;refine (KQ.out _ hI6.out hK6.out).mono ?_;rintro e w5 ⟨rfl,hI5,hK5⟩;(have hI:=mK hI5);(have hK:=mK hK5);clear hI5 hK5 hI6 hK6))
 obtain ⟨ws,hws⟩:=nmE ([Bv,An y,An u,An m,Lib.itoa st]:WL);have hne:Ai 32 ws≠[]:=by rw [hws];simp [Ai,Bv]
 have hwl:lenW ws≤1000000:=by
  have h1:=Bu gy;have h2:=Bu gu;have h3:=Bu gm;have h4:=hil;rw [hws];simp only [lenW,Bv,List.length_cons,List.length_nil];omega
 have hTX:Aw (.leaves (os.map (·.1)) y u m st)=Ai 32 (ws++(os.map (·.1)).flatMap wdE):=by rw [hws];rfl
 rw [show [Bv,An y,An u,An m]++[Lib.itoa st]=[Bv,An y,An u,An m,Lib.itoa st] from rfl,←hws] at hI;clear hws gy gu gm FY FU FM zE3 KP KI KQ tok y0 hil gn0 gn1;have gI:=mK gL.it;have hol':=hol;obtain ⟨C,hC⟩:∃ C:Nat→List UInt8,C=fun k=>Ai 32 (ws++((os.map (·.1)).take k).flatMap wdE):=⟨_,rfl⟩
 have hC0:Ai 32 ws=C 0:=by rw [hC];simp
 have hCn:C os.length=Aw (.leaves (os.map (·.1)) y u m st):=by
  rw [hTX,hC];show Ai 32 (ws++((os.map (·.1)).take os.length).flatMap wdE)=_
  rw [List.take_of_length_le (by simp)]
 have hCle:∀ k,(C k).length≤(Aw (.leaves (os.map (·.1)) y u m st)).length:=fun k=>by
  rw [hTX,hC];show (Ai 32 (ws++((os.map (·.1)).take k).flatMap wdE)).length≤_
  have:=Fc (((os.map (·.1)).drop k).flatMap wdE) (ws++((os.map (·.1)).take k).flatMap wdE);rw [List.append_assoc,←List.flatMap_append,List.take_append_drop] at this;exact this
 have hCb:∀ k,(C k).length≤35184372088832:=fun k=>by
  have h1:=hCle k;rw [hTX] at h1;have h2:=Eb (ws++(os.map (·.1)).flatMap wdE);rw [Cr] at h2;have h3:=Ps (os.map (·.1)) hol'.2;have h4:(os.map (·.1)).length*131082≤4096*131082:=Nat.mul_le_mul_right _ hol'.1;omega
 have hCne:∀ k,Ai 32 (ws++((os.map (·.1)).take k).flatMap wdE)≠[]:=fun k e=>by
  have:=Fc (((os.map (·.1)).take k).flatMap wdE) ws;rw [e] at this;exact hne (List.eq_nil_of_length_eq_zero (Nat.le_zero.1 this))
 obtain ⟨n,hn⟩:=nmE os.length;have hnb:n≤4096:=by rw [hn];simpa using hol'.1
 obtain ⟨-,yb,-⟩:=cE.out w5 (hX.out w5 hK.out);rw [←hn] at yb;rw [hC0] at hI;rw [←hn] at hCn;rw [←hn];replace hn:=mK hn;replace hC:=mK hC;replace hCn:=mK hCn;replace hCle:=mK hCle;replace hCb:=mK hCb;replace hCne:=mK hCne;replace hol':=mK hol';have st:Hid (∃ k:Nat,k≤n∧Value.int .i64 0=.int .i64 k∧IsWrt lo b (byteCells (C k)) w5∧Kw b lo w3 w5):=⟨0,Nat.zero_le _,rfl,hI.out,hK.out⟩
 clear hI hK hC0 hol hc1 hTX hne hwl gL;go_wp2_with fail;clear yb;go_loopw [110] (fun i wr=>∃ k:Nat,k≤n∧i=.int .i64 k∧IsWrt lo b (byteCells (C k)) wr∧Kw b lo w3 wr) (fun i _=>n-(RowKit.intOf i).toNat)
 case atStart=>exact st.out
 case round=>
  clear st;obtain ⟨k,hk,rfl,hI,hK⟩:=hrel;obtain ⟨w6,rfl⟩:=nmE (wr:World);by_cases hlt:k<n
  ·have hkl:k<os.length:=by rw [←hn.out];exact hlt
   obtain ⟨p,q,e0,g1,g2⟩:=gI.out _ (List.getElem_mem hkl);obtain ⟨bb,o,c',x1,-,hrg,-⟩:=(HL.out w6 (hX.out w6 hK)).get (by decide) hkl;rw [←hn.out] at x1;simp only [Value.slice.injEq,true_and] at x1;obtain ⟨rfl,rfl⟩:=x1;rw [e0] at hrg;obtain ⟨E,hE⟩:=nmE (os[k].1);rw [←hE] at hrg g1 g2;replace hrg:w6.rangeAt bb (o+k*9) [.int .u8 E.kd,.bool p.b1,.slice p.a1 p.n1 p.c1,.bool p.b2,.slice p.a2 p.n2 p.c2,.bool q.b1,.slice q.a1 q.n1 q.c1,.bool q.b2,.slice q.a2 q.n2 q.c2]:=hrg;have hoE:okE E:=by rw [hE];exact hol'.out.2 _ (List.mem_map_of_mem (List.getElem_mem hkl))
   obtain ⟨w7,hw7⟩:=nmE (w6.alloc (.cells #[.int .u8 E.kd,.bool p.b1,.slice p.a1 p.n1 p.c1,.bool p.b2,.slice p.a2 p.n2 p.c2,.bool q.b1,.slice q.a1 q.n1 q.c1,.bool q.b2,.slice q.a2 q.n2 q.c2] 72));have hE7:=aLe1 hw7;have zV:=mK (aL10 hw7);have hCk:Ai 32 (ws++((os.map (·.1)).take k).flatMap wdE)=C k:=by rw [hC.out]
   have hCs:Ai 32 (ws++((os.map (·.1)).take k).flatMap wdE++wdE E)=C (k+1):=by
    rw [hC.out];show _=Ai 32 (ws++((os.map (·.1)).take (k+1)).flatMap wdE)
    rw [List.take_succ_eq_append_getElem (by simpa using hkl),List.flatMap_append,←List.append_assoc];simp [hE]
   have KE:=el_k (ws++((os.map (·.1)).take k).flatMap wdE) p q E w7 (by rw [hCk];exact hI.ext hE7) (hK.trans (Kw.of _ _ hE7)) hlo.out (hCne.out k) (fun W' h=>⟨g1.ext (hE1.out.trans (hX.out W' h)),g2.ext (hE1.out.trans (hX.out W' h))⟩) hoE (by rw [hCk];exact hCb.out k) HTK.out;rw [hCs] at KE;obtain ⟨L1,hL1⟩:=nmE ((C (k+1)).length);replace hL1:=mK hL1;replace KE:=mK KE;replace hE7:=mK hE7;replace hw7:=mK hw7;replace hrg:=mK hrg;replace hK:=mK hK;clear hI hE hCk hCs e0 g1 g2 hoE;have tok:Tok 10:=.mk _;by_cases hbig:65536<L1
   ·have hbi:(65536:Int)<(L1:Int):=by omega
    go_wp2_with (first
     | (replace tok:Tok 11:=nxT 10 tok;refine wpList_load_mid (by rfl) 72 (.tmp 112) rfl bb (o+k*9) rfl [.int .u8 E.kd,.bool p.b1,.slice p.a1 p.n1 p.c1,.bool p.b2,.slice p.a2 p.n2 p.c2,.bool q.b1,.slice q.a1 q.n1 q.c1,.bool q.b2,.slice q.a2 q.n2 q.c2] _ hrg.out Tryz.underlying72 rfl (by kernel_rfl) ?_)
     | (replace tok:Tok 12:=nxT 11 tok;rw [←hw7.out];refine wpList_load_row (by rfl) 72 (.tmp 12) rfl (w6.heap.size) rfl 72 #[.int .u8 E.kd,.bool p.b1,.slice p.a1 p.n1 p.c1,.bool p.b2,.slice p.a2 p.n2 p.c2,.bool q.b1,.slice q.a1 q.n1 q.c1,.bool q.b2,.slice q.a2 q.n2 q.c2] (0,0) _ zV.out Tryz.underlying72 rfl (by kernel_rfl) ?_)
     | (replace tok:Tok 13:=nxT 12 tok;go_at_call 28;refine KE.out.mono ?_;rintro e w8 ⟨rfl,hI8,hK8⟩;(have KL:=Gt lo b _ _ hI8);(rw [lenC,←hL1.out] at KL);(replace KL:=mK KL);(replace hI8:=mK hI8);(replace hK8:=mK hK8))
     | (replace tok:Tok 14:=nxT 13 tok;go_at_call 29;refine KL.out.mono ?_;rintro e w9 ⟨rfl,rfl⟩)
     )
    go_ret2;have hq:(if (Aw (.leaves (os.map (·.1)) y u m st)).length≤65536 then Ending.returned (.tuple #[.string ⟨(Aw (.leaves (os.map (·.1)) y u m st)).toArray⟩,.int .i64 0]) else .returned (.tuple #[.string ⟨#[]⟩,.int .i64 4]))=.returned (.tuple #[.string ⟨#[]⟩,.int .i64 4]):=if_neg (by have:=hCle.out (k+1);have:=hL1.out;omega);exact ⟨hq.symm,hE1.out.trans (hX.out _ hK8.out)⟩
   ·have hbi:¬(65536:Int)<(L1:Int):=by omega
    go_wp2_with (first
     | (replace tok:Tok 11:=nxT 10 tok;refine wpList_load_mid (by rfl) 72 (.tmp 112) rfl bb (o+k*9) rfl [.int .u8 E.kd,.bool p.b1,.slice p.a1 p.n1 p.c1,.bool p.b2,.slice p.a2 p.n2 p.c2,.bool q.b1,.slice q.a1 q.n1 q.c1,.bool q.b2,.slice q.a2 q.n2 q.c2] _ hrg.out Tryz.underlying72 rfl (by kernel_rfl) ?_)
     | (replace tok:Tok 12:=nxT 11 tok;rw [←hw7.out];refine wpList_load_row (by rfl) 72 (.tmp 12) rfl (w6.heap.size) rfl 72 #[.int .u8 E.kd,.bool p.b1,.slice p.a1 p.n1 p.c1,.bool p.b2,.slice p.a2 p.n2 p.c2,.bool q.b1,.slice q.a1 q.n1 q.c1,.bool q.b2,.slice q.a2 q.n2 q.c2] (0,0) _ zV.out Tryz.underlying72 rfl (by kernel_rfl) ?_)
     | (replace tok:Tok 13:=nxT 12 tok;go_at_call 28;refine KE.out.mono ?_;rintro e w8 ⟨rfl,hI8,hK8⟩;(have KL:=Gt lo b _ _ hI8);(rw [lenC,←hL1.out] at KL);(replace KL:=mK KL);(replace hI8:=mK hI8);(replace hK8:=mK hK8))
     | (replace tok:Tok 14:=nxT 13 tok;go_at_call 29;refine KL.out.mono ?_;rintro e w9 ⟨rfl,rfl⟩)
     )
    go_roundw
    case rel=>exact ⟨k+1,by omega,by go_num,hI8.out,hK8.out⟩
    case measure=>simp [RowKit.intOf]<;>omega
  ·obtain rfl:n=k:=by omega
   obtain ⟨L1,hL1⟩:=nmE ((C n).length);have KL:=Gt lo b _ _ hI;rw [lenC,←hL1] at KL;replace KL:=mK KL
   have hCne':C n≠[]:=by
    have:=hCne.out n;rw [show Ai 32 (ws++((os.map (·.1)).take n).flatMap wdE)=C n by rw [hC.out]] at this;exact this
   have KS:=mK (Jo lo b _ _ hI hCne');rw [hCn.out] at KS;have hL1':L1=(Aw (.leaves (os.map (·.1)) y u m st)).length:=by rw [hL1,hCn.out]
   replace hL1':=mK hL1';replace hK:=mK hK;have tok:Tok 20:=.mk _;clear hI hL1 hCne';by_cases hbig:65536<L1
   ·have hbi:(65536:Int)<(L1:Int):=by omega
    go_wp2_with (go_at_call 29;refine KL.out.mono ?_;rintro e w8 ⟨rfl,rfl⟩);go_ret2;have hq:(if (Aw (.leaves (os.map (·.1)) y u m st)).length≤65536 then Ending.returned (.tuple #[.string ⟨(Aw (.leaves (os.map (·.1)) y u m st)).toArray⟩,.int .i64 0]) else .returned (.tuple #[.string ⟨#[]⟩,.int .i64 4]))=.returned (.tuple #[.string ⟨#[]⟩,.int .i64 4]):=if_neg (by have:=hL1'.out;omega);exact ⟨hq.symm,hE1.out.trans (hX.out _ hK.out)⟩
   ·have hbi:¬(65536:Int)<(L1:Int):=by omega
    go_wp2_with (first
     | (replace tok:Tok 21:=nxT 20 tok;go_at_call 29;refine KL.out.mono ?_;rintro e w8 ⟨rfl,rfl⟩)
     | (replace tok:Tok 22:=nxT 21 tok;go_at_call 30;refine KS.out.mono ?_;rintro e w9 ⟨rfl,hBl⟩))
    go_ret2;have hq:(if (Aw (.leaves (os.map (·.1)) y u m st)).length≤65536 then Ending.returned (.tuple #[.string ⟨(Aw (.leaves (os.map (·.1)) y u m st)).toArray⟩,.int .i64 0]) else .returned (.tuple #[.string ⟨#[]⟩,.int .i64 4]))=.returned (.tuple #[.string ⟨(Aw (.leaves (os.map (·.1)) y u m st)).toArray⟩,.int .i64 0]):=if_pos (by have:=hL1'.out;omega);exact ⟨hq.symm,hE1.out.trans (Below.trans (hX.out _ hK.out) (hBl.mono hb1.out))⟩
end Go.Proofs.YtlknpnommcohkaaGreatDoor
