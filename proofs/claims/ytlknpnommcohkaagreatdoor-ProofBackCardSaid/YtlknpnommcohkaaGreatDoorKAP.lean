/-
  Reading a best choice: the parts; a text that is too long. proof's reader: best. proof.Decode, of any text. law30: ProofBack, where lives says yes. The numbers of lives: a bench of one space and one lens, each of one; its ray, its proof, and what is told of them. proof: copied (a fraction in memory of its own). proof: copiedElement, copiedRay. proof: copiedBench.
-/
import Derived.Test.YtlknpnommcohkaaGreatDoorKAO
import Derived.Test.YtlknpnommcohkaaGreatDoorKAK
import Derived.Test.YtlknpnommcohkaaGreatDoorKAG
set_option maxHeartbeats 6400000
namespace Go.Proofs.YtlknpnommcohkaaGreatDoor
set_option maxRecDepth 100000
open Go Go.RowKit Go.Proofs
def PtQ (R:WL)(rp pp b:Nat)(f g:FV)(s2 s4:Value)(tg pw:Rat)(sp:List Rat)(pk:List Int)(co:Int)(w W:World):Prop:=
 ∃ (R':WL) (bad:Bool),RdS rp R' bad W∧Chg w W (fun j=>j=rp∨j=pp)∧(∀ z∈R',z.length≤65536)∧R'.length≤R.length∧(bad=true→Ce R=none) ∧
  (bad=false→∃ (s:Value) (os:List (PD×Value)),W.heap[pp]? = some (.cells (pfC (pvT f s2 s s4 g co)) 39 (0,0))∧OwnT b W f g s2 s4 tg pw sp pk∧Lo 11 74 (PrI b) b W s os∧os.length+R'.length≤65537 ∧
   (∀ pts,tPs R'.length R'=some pts→Ce R=some (.best ⟨sp,os.map (·.1)++pts,tg⟩ pk pw co))∧(tPs R'.length R'=none→Ce R=none)∧co≤9223372036854775807)
theorem Acx {R:WL}{n:Int}{e:EL}{r:WL}(h0:R≠[])(h1:tN R.tail=some (n,R.tail.tail))(h2:tE R.tail.tail=some (e,r)):tP R=some (⟨⟨(R.headD []).toArray⟩,e.kd,e.p,e.q,n⟩,r):=by
 cases R with
 | nil=>exact absurd rfl h0
 | cons x t=>
  simp only [List.tail_cons] at h1 h2;simp only [tP,h1,Option.bind_some,h2,Option.map_some,List.headD_cons]
theorem Acy {R:WL}(h:¬((tN R.tail).isSome=true∧(tE R.tail.tail).isSome=true)):tP R=none:=by
 cases R with
 | nil=>rfl
 | cons x t=>
  simp only [List.tail_cons] at h;cases h1:tN t with
  | none=>simp only [tP,h1,Option.bind_none]
  | some z=>
   obtain ⟨n,r⟩:=z;have:=Hm h1;subst this;cases h2:tE t.tail with
   | none=>simp only [tP,h1,Option.bind_some,h2,Option.map_none]
   | some y=>exact absurd ⟨by rw [h1];rfl,by rw [h2];rfl⟩ h
theorem Adb {R R':WL}{rp pp b c j:Nat}{f g:FV}{sS sP:Value}{tg pw:Rat}{sp:List Rat}{pk:List Int}{co n kd:Int}{p q:FV}{w wr v2 v4:World}{s' s2:Value}{os:List (PD×Value)}
  (S:Stp rp pp b 74 w wr v2 v4 #[.string ⟨(R'.headD []).toArray⟩,.int .u8 kd,.bool p.b1,.slice p.a1 p.n1 p.c1,.bool p.b2,.slice p.a2 p.n2 p.c2,.bool q.b1,.slice q.a1 q.n1 q.c1,.bool q.b2,.slice q.a2 q.n2 q.c2,.int .i64 n] s' s2) (hR:Gs rp wr=R'.length) (hRx:∀ z∈R',z.length≤65536) (hRl:R'.length≤R.length) (hne:R'≠[])
  (hO:OwnT b wr f g sS sP tg pw sp pk) (hLl:os.length+R'.length≤65537) (hfin:∀ pts,tPs R'.length R'=some pts→Ce R=some (.best ⟨sp,os.map (·.1)++pts,tg⟩ pk pw co)) (hno:tPs R'.length R'=none→Ce R=none) (hco:co≤9223372036854775807)
  (hR2:RdS rp (R'.tail.tail.tail.drop j) ((false || !(tN R'.tail).isSome) || !(tE R'.tail.tail).isSome) v2) (hN:∀ m r,tN R'.tail=some (m,r)→n=m) (hc:b≤c)
  (hE:∀ x r,tE R'.tail.tail=some (x,r)→r=R'.tail.tail.tail.drop j∧kd=x.kd∧FracO v2 c (.agg #[.bool p.b1,.slice p.a1 p.n1 p.c1,.bool p.b2,.slice p.a2 p.n2 p.c2]) x.p∧FracO v2 c (.agg #[.bool q.b1,.slice q.a1 q.n1 q.c1,.bool q.b2,.slice q.a2 q.n2 q.c2]) x.q)
  (hL2:Lo 11 74 (PrI b) b v2 s' os) (hown:v4.ownsRow b 74 11 s2 (os.length+1) (cv (os.map (·.2))++(Value.agg #[.string ⟨(R'.headD []).toArray⟩,.int .u8 kd,.bool p.b1,.slice p.a1 p.n1 p.c1,.bool p.b2,.slice p.a2 p.n2 p.c2,.bool q.b1,.slice q.a1 q.n1 q.c1,.bool q.b2,.slice q.a2 q.n2 q.c2,.int .i64 n]).cells.toList))
  (zp4:v4.heap[pp]? = some (.cells (pfC (pvT f sS s' sP g co)) 39 (0,0))):PtQ R rp pp b f g sS sP tg pw sp pk co w (v4.setCell ⟨pp,16,none⟩ s2)∧Gs rp (v4.setCell ⟨pp,16,none⟩ s2)<Gs rp wr:=by
 have he:v4.setCell ⟨pp,16,none⟩ s2=v4.setRow pp (pfC (pvT f sS s2 sP g co)):=(setCell_eq_setRow v4 pp 16 _ _ _ s2 zp4).trans rfl;rw [he];have hu:Ty b 150 v2 v4:=S.ty _ (by decide);have hf:Ty b 28 v2 v4:=S.ty _ (by decide);have hi:Ty b 3 v2 v4:=S.ty _ (by decide);have hu5:=S.ty2 150 (pfC (pvT f sS s2 sP g co));have hR5:=S.rd hR2 (by decide) (by decide) zp4 (pfC (pvT f sS s2 sP g co));have hl1:1≤R'.length:=List.length_pos_iff.2 hne
 have hlen:(R'.tail.tail.tail.drop j).length+1≤R'.length:=by
  rw [List.length_drop,List.length_tail,List.length_tail,List.length_tail];omega
 refine ⟨⟨_,_,hR5,S.chg _,fun z hz=>hRx z (List.mem_of_mem_tail (List.mem_of_mem_tail (List.mem_of_mem_tail (List.mem_of_mem_drop hz)))),by omega,fun hbad=>?_,fun hgood=>?_⟩,by rw [hR5.len,hR];omega⟩
 ·refine hno (Afc hne (Acy fun ⟨h1,h2⟩=>?_))
  rw [h1,h2] at hbad;cases hbad
 ·have h1:(tN R'.tail).isSome=true:=by
   cases h:(tN R'.tail).isSome with
   | true=>rfl
   | false=>rw [h] at hgood;cases hgood
  have h2:(tE R'.tail.tail).isSome=true:=by
   cases h:(tE R'.tail.tail).isSome with
   | true=>rfl
   | false=>rw [h,h1] at hgood;cases hgood
  obtain ⟨⟨m,r⟩,e1⟩:=Option.isSome_iff_exists.1 h1;obtain rfl:=hN _ _ e1;obtain rfl:=Hm e1;obtain ⟨⟨e,r⟩,e2⟩:=Option.isSome_iff_exists.1 h2;obtain ⟨q1,q2,q3,q4⟩:=hE e r e2;obtain ⟨-,n1,n2,-⟩:=Is e2;have hP:=Acx hne e1 e2;have hst:=Aai hP;rw [←q1]
  have hnm:(⟨(R'.headD []).toArray⟩:ByteArray).size≤140737488355328:=by
   have:(R'.headD []).length≤65536:=by
    cases R' with
    | nil=>exact absurd rfl hne
    | cons x t=>exact hRx x (List.mem_cons_self ..)
   show (R'.headD []).toArray.size≤_
   rw [List.size_toArray];omega
  have hv:PrI b v4 (.agg #[.string ⟨(R'.headD []).toArray⟩,.int .u8 kd,.bool p.b1,.slice p.a1 p.n1 p.c1,.bool p.b2,.slice p.a2 p.n2 p.c2,.bool q.b1,.slice q.a1 q.n1 q.c1,.bool q.b2,.slice q.a2 q.n2 q.c2,.int .i64 n]) ⟨⟨(R'.headD []).toArray⟩,e.kd,e.p,e.q,n⟩:=⟨p,q,by rw [q2],⟨(q3.mono hc).ty hu,n1⟩,⟨(q4.mono hc).ty hu,n2⟩,hnm⟩
  have hL4:Lo 11 74 (PrI b) b v4 s2 (os++[(⟨⟨(R'.headD []).toArray⟩,e.kd,e.p,e.q,n⟩,.agg #[.string ⟨(R'.headD []).toArray⟩,.int .u8 kd,.bool p.b1,.slice p.a1 p.n1 p.c1,.bool p.b2,.slice p.a2 p.n2 p.c2,.bool q.b1,.slice q.a1 q.n1 q.c1,.bool q.b2,.slice q.a2 q.n2 q.c2,.int .i64 n])]):=hL2.snoc hown (fun _ _ h=>h.ty hu) hv rfl;refine ⟨s2,_,setRow_heap _ _ _ _ _ _ zp4,((hO.ty (S.ty1 _) (S.ty1 _) (S.ty1 _)).ty hu hf hi).ty hu5 (S.ty2 _ _) (S.ty2 _ _),hL4.ty (S.ty2 _ _) fun _ _ h=>h.ty hu5,?_,fun pts hpts=>?_,fun hn=>?_,hco⟩
  ·rw [List.length_append,List.length_singleton,q1]
   omega
  ·have:=hfin (_::pts) (by rw [hst,hpts];rfl)
   simpa using this
  ·exact hno (by rw [hst,hn];rfl)
theorem Aeo {l:List UInt8}{n:Int}(h:Lib.atoiAll l=.ok n):n≤9223372036854775807:=by
 unfold Lib.atoiAll at h;split at h
 ·cases h
 ·simp only at h
  split at h
  ·cases h
  ·cases h
  ·split at h
   ·cases h
   ·split at h
    ·cases h
    ·cases h
     split<;>omega
theorem Agn {R r:WL}{n:Int}(h:tN R=some (n,r)):n≤9223372036854775807:=by
 cases R with
 | nil=>cases h
 | cons w t=>
  simp only [tN,Option.map_eq_some_iff,Prod.mk.injEq] at h;obtain ⟨m,hm,rfl,-⟩:=h;unfold numA at hm;split at hm
  ·rename_i k hk
   split at hm
   ·cases hm
    exact Aeo hk
   ·cases hm
  ·cases hm
theorem Aa0 {R R4:WL}{rp pp b:Nat}{f g:FV}{sS sP:Value}{tg:Rat}{sp:List Rat}{pk:List Int}{co:Int}{bad:Bool}{w wb v1 v2:World}(hb:b=w.heap.size)(hlr:rp<b)(hlp:pp<b)(hnp:pp≠rp)
  (hC:Chg w wb (fun j=>j=rp∨j=pp)) (hC1:Chg wb v1 (· = rp)) (hC2:Chg v1 v2 (· = rp)) (hs4:∀ z∈R4,z.length≤65536) (hl4:R4.length≤R.length) (hRl:R.length≤65537)
  (hR2:RdS rp R4.tail.tail ((bad || !(tF R4).isSome) || !(tN R4.tail).isSome) v2) (hF:∀ x r,tF R4=some (x,r)→FracO v1 wb.heap.size (.agg #[.bool g.b1,.slice g.a1 g.n1 g.c1,.bool g.b2,.slice g.a2 g.n2 g.c2]) x) (hN:∀ m r,tN R4.tail=some (m,r)→co=m) (hbad:bad=true→Ce R=none)
  (hgood:bad=false→FrI b wb (.agg #[.bool f.b1,.slice f.a1 f.n1 f.c1,.bool f.b2,.slice f.a2 f.n2 f.c2]) tg∧∃ osp:List (Rat×Value),osp.map (·.1)=sp∧Lo 4 28 (FrI b) b wb sS osp) (hpk:∃ os:List (Int×Value),os.map (·.1)=pk∧Lo 1 3 NumA b wb sP os)
  (hTB:bad=false→Ce R=(tF R4).bind fun pw=>(tN pw.2).bind fun co=>(tPs co.2.length co.2).map fun pt=>.best ⟨sp,pt,tg⟩ pk pw.1 co.1)
  (zp2:v2.heap[pp]? = some (.cells (pfC (pvT f sS nV sP zFd 0)) 39 (0,0))) :
  ∃ pw,PtQ R rp pp b f g sS sP tg pw sp pk co w ((v2.setRow pp (pfC (pvT f sS nV sP g 0))).setCell ⟨pp,26,none⟩ (.int .i64 co)):=by
 have zq:=setRow_heap v2 pp _ (pfC (pvT f sS nV sP g 0)) _ _ zp2;have he:(v2.setRow pp (pfC (pvT f sS nV sP g 0))).setCell ⟨pp,26,none⟩ (.int .i64 co)=(v2.setRow pp (pfC (pvT f sS nV sP g 0))).setRow pp (pfC (pvT f sS nV sP g co)):=(setCell_eq_setRow _ pp 26 _ _ _ (.int .i64 co) zq).trans rfl;rw [he];have hT:∀ {W W':World} (T:TypeId),Chg W W' (· = rp)→Ty b T W W':=fun T h=>Ty.of_chg h fun k hk=>by rw [hk];exact hlr
 have hS:∀ (W:World) (T:TypeId) (c:Array Value),Ty b T W (W.setRow pp c):=fun W T c=>Ty.of_chg (Aq W pp c) fun k hk=>by rw [hk];exact hlp
 have hA:∀ T,Ty b T v2 ((v2.setRow pp (pfC (pvT f sS nV sP g 0))).setRow pp (pfC (pvT f sS nV sP g co))):=fun T=>(hS _ T _).trans (hS _ T _);have hAll:∀ T,Ty b T wb ((v2.setRow pp (pfC (pvT f sS nV sP g 0))).setRow pp (pfC (pvT f sS nV sP g co))):=fun T=>((hT T hC1).trans (hT T hC2)).trans (hA T);have hCf:Chg w ((v2.setRow pp (pfC (pvT f sS nV sP g 0))).setRow pp (pfC (pvT f sS nV sP g co))) (fun j=>j=rp∨j=pp):=(((hC.trans (Ax hC1 pp)).trans (Ax hC2 pp)).trans ((Aq _ pp _).mono fun k _ h=>.inr h)).trans ((Aq _ pp _).mono fun k _ h=>.inr h);refine ⟨((tF R4).map (·.1)).getD 0,_,_,(hR2.set zp2 (by decide) hnp _).set zq (by decide) hnp _,hCf,mem3 (mem3 hs4),by simp only [List.length_tail];omega,fun hbd=>?_,fun hgd=>?_⟩
 ·cases hb0:bad with
  | true=>exact hbad hb0
  | false=>
   rw [hTB hb0];rw [hb0] at hbd;cases h1:tF R4 with
   | none=>rfl
   | some z=>
    obtain ⟨x,r⟩:=z;obtain rfl:=(De h1).2.2;cases h2:tN R4.tail with
    | none=>simp only [Option.bind_some,h2,Option.bind_none]
    | some y=>rw [h1,h2] at hbd;cases hbd
 ·have hb0:bad=false:=by
   cases h:bad with
   | false=>rfl
   | true=>rw [h] at hgd;cases hgd
  have h1:(tF R4).isSome=true:=by
   cases h:(tF R4).isSome with
   | true=>rfl
   | false=>rw [h,hb0] at hgd;cases hgd
  have h2:(tN R4.tail).isSome=true:=by
   cases h:(tN R4.tail).isSome with
   | true=>rfl
   | false=>rw [h,h1,hb0] at hgd;cases hgd
  obtain ⟨pw,e1⟩:=Gq h1;obtain ⟨⟨m,r⟩,e2⟩:=Option.isSome_iff_exists.1 h2;obtain rfl:=hN _ _ e2;obtain rfl:=Hm e2;have hco:=Agn e2;have hTB':=hTB hb0;rw [e1] at hTB' ⊢;simp only [Option.bind_some,e2] at hTB';obtain ⟨g1,osp,g2,g3⟩:=hgood hb0;obtain ⟨os,p1,p2⟩:=hpk;have hbw:b≤wb.heap.size:=by rw [hb];exact hC.size
  refine ⟨nV,[],setRow_heap _ _ _ _ _ _ zq,⟨⟨osp,g2,g3.ty (hAll _) fun _ _ h=>h.ty (hAll _)⟩,⟨os,p1,p2.ty (hAll _) fun _ _ h=>h⟩,g1.ty (hAll _),?_⟩,Fk _ _ _ _ _,by simp only [List.length_nil,List.length_tail];omega,fun pts hp=>?_,fun hn=>?_,hco⟩
  ·exact FrI.ty (b:=b) ⟨((hF _ _ e1).mono hbw).ty (hT _ hC2),(Do e1).2⟩ (hA _)
  ·rw [hTB',hp]
   rfl
  ·rw [hTB',hn]
   rfl
theorem Uz (s:ByteArray)(w:World)(hs:65536<s.size):Calls Tryz.prog 10 #[.string s] w fun e w'=>e=.returned (.tuple #[.agg (pfC zPV),.int .i64 4])∧Ext w w':=by
 have hsz:(65536:Int)<(s.size:Int):=by omega
 obtain ⟨w1,hw1⟩:=nmE (w.alloc (.cells (pfC zPV) 39));have hE1:=aLe1 hw1;have z1:=aL10 hw1;simp only [pfC,zPV] at hw1;replace hw1:=mK hw1;go_enter Tryz.func10,Tryz.ntmps10;go_wp2_with (rw [←hw1.out];refine wpList_store_row rfl 39 (.tmp 2) (.tmp 9) rfl w.heap.size (pfC zPV) rfl rfl 39 _ z1 (by kernel_rfl) rfl (by kernel_rfl) ?_);exact bodyPost_ret (Aj rfl _ _ w.heap.size 39 (pfC zPV) _ _ rfl rfl (setRow_heap _ _ _ _ _ _ z1) Tryz.underlying39 rfl (by kernel_rfl)) rfl ⟨rfl,hE1.row (nR _) _⟩
theorem Agf (rp pp:Nat)(R:WL)(w:World)(h:RdS rp R false w)(zp:w.heap[pp]? = some (.cells (pfC zPV) 39 (0,0)))(hne:rp≠pp)(hs:∀ x∈R,x.length≤65536)(hlen:R.length≤65537)(hm:∀ W,Chg w W (fun k=>k=rp∨k=pp)→Max0 W∧Tab10 W∧ErrA W) :
  Calls Tryz.prog 37 #[.pointer (some ⟨rp,0,none⟩),.pointer (some ⟨pp,0,none⟩)] w (Oj R rp pp w):=by
 obtain ⟨b,hb⟩:=nmE w.heap.size;have hlr:rp<b:=by rw [hb];exact h.lt
 have hlp:pp<b:=by rw [hb];exact (Array.getElem?_eq_some_iff.1 zp).1
 have hnp:pp≠rp:=fun e=>hne e.symm;have f0:w.frozen? ⟨pp,0,none⟩=false:=Lib.frozen_of_heap zp 0;have y0:w.cell? ⟨pp,0,none⟩=some (.int .u8 0):=by simp [World.cell?,zp,pfC,zPV]
 obtain ⟨w1,hw1⟩:=nmE (w.setRow pp (pfC (pvT zFd nV nV nV zFd 0)));have e1:w.setCell ⟨pp,0,none⟩ (.int .u8 3)=w1:=by rw [hw1];exact (setCell_eq_setRow w pp 0 _ _ _ (.int .u8 3) zp).trans rfl
 have hC1:Chg w w1 (fun k=>k=rp∨k=pp):=by rw [hw1];exact (Aq w pp _).mono fun k _ h=>.inr h
 have hR1:RdS rp R false w1:=by rw [hw1];exact h.set zp (by decide) hnp _
 have zp1:w1.heap[pp]? = some (.cells (pfC (pvT zFd nV nV nV zFd 0)) 39 (0,0)):=by rw [hw1];exact setRow_heap _ _ _ _ _ _ zp
 have KF:=mK (fun (R:WL) (bad:Bool) (W:World) (h:RdS rp R bad W) (hC:Chg w W (fun k=>k=rp∨k=pp)) (hs:∀ z∈R,z.length≤65536)=>Ft rp R bad W h hs (fun W' h'=>(hm W' (hC.trans (Ax h' pp))).1));have KNm:=mK (fun (R:WL) (bad:Bool) (W:World) (h:RdS rp R bad W) (hC:Chg w W (fun k=>k=rp∨k=pp)) (hs:∀ z∈R,z.length≤65536)=>Nl rp R bad W h hs (fun W' h'=>(hm W' (hC.trans (Ax h' pp))).2.1) (fun W' h'=>(hm W' (hC.trans (Ax h' pp))).2.2));have KE:=mK (fun (R:WL) (bad:Bool) (W:World) (h:RdS rp R bad W) (hC:Chg w W (fun k=>k=rp∨k=pp)) (hs:∀ z∈R,z.length≤65536)=>Lu rp R bad W h hs (fun W' h'=>(hm W' (hC.trans (Ax h' pp))).1));have hBw:=mK (fun (W:World) (h:Chg w W (fun k=>k=rp∨k=pp))=>show b≤W.heap.size by rw [hb];exact h.size);replace e1:=mK e1;replace hC1:=mK hC1;replace hR1:=mK hR1;replace zp1:=mK zp1;replace hb:=mK hb;replace hs:=mK hs;clear hw1 h zp hm hne;replace hnp:=mK hnp;go_enter Tryz.func37,Tryz.ntmps37;have tok:Tok 0:=.mk _
 go_upto_region 3 with (first
  | (replace tok:Tok 1:=nxT 0 tok;go_at_call 35;rw [e1.out];refine (KF.out R false _ hR1.out hC1.out hs.out).mono ?_;rintro e w2 ⟨f,rfl,hR2,hC2,hF⟩;(have zp2:=mK ((hC2.block pp (Array.getElem?_eq_some_iff.1 zp1.out).1 hnp.out).trans zp1.out));(have hCC2:=mK (hC1.out.trans (Ax hC2 pp)));(replace hR2:=mK hR2);(replace hC2:=mK hC2);(replace hF:=mK hF))
  | (replace tok:Tok 2:=nxT 1 tok;refine Bg rfl 28 (.tmp 13) (.tmp 10) rfl pp 17 rfl 39 (pfC (pvT zFd nV nV nV zFd 0)) (pfC (pvT f nV nV nV zFd 0)) #[.bool f.b1,.slice f.a1 f.n1 f.c1,.bool f.b2,.slice f.a2 f.n2 f.c2] rfl zp2.out (by kernel_rfl) (by show 21≤27;omega) (by kernel_rfl) (by kernel_rfl) ?_)
  | (replace tok:Tok 3:=nxT 2 tok;go_at_call 36;(have hR3:=mK (hR2.out.set zp2.out (by decide) hnp.out (pfC (pvT f nV nV nV zFd 0))));(have hC3:=mK (hCC2.out.trans ((Aq w2 pp (pfC (pvT f nV nV nV zFd 0))).mono fun k _ h=>.inr h)));refine (KNm.out R.tail _ _ hR3.out hC3.out (mem3 hs.out)).mono ?_;rintro e w4 ⟨n,rfl,hR4,hC4,hN⟩;(have hX4:=mK hC4);(replace hN:=mK hN);(replace hR4:=mK hR4);clear hC4))
 have zp3:(w2.setRow pp (pfC (pvT f nV nV nV zFd 0))).heap[pp]? = some (.cells (pfC (pvT f nV nV nV zFd 0)) 39 (0,0)):=setRow_heap _ _ _ _ _ _ zp2.out;have zp4:w4.heap[pp]? = some (.cells (pfC (pvT f nV nV nV zFd 0)) 39 (0,0)):=(hX4.out.block pp (Array.getElem?_eq_some_iff.1 zp3).1 hnp.out).trans zp3;have hC4:Chg w w4 (fun k=>k=rp∨k=pp):=hC3.out.trans (Ax hX4.out pp)
 have hFI:∀ tg r,tF R=some (tg,r)→FrI b w4 (.agg #[.bool f.b1,.slice f.a1 f.n1 f.c1,.bool f.b2,.slice f.a2 f.n2 f.c2]) tg:=fun tg r h=>by
  have h1:=(hF.out tg r h).mono (hBw.out w1 hC1.out);have h2:FracO (w2.setRow pp (pfC (pvT f nV nV nV zFd 0))) b (.agg #[.bool f.b1,.slice f.a1 f.n1 f.c1,.bool f.b2,.slice f.a2 f.n2 f.c2]) tg:=h1.ty (Ty.of_chg (Aq w2 pp _) fun k hk=>by rw [hk];exact hlp);exact ⟨h2.ty (Ty.of_chg hX4.out fun k hk=>by rw [hk];exact hlr),(Do h).2⟩
 obtain ⟨bad,hbd⟩:=nmE ((false || !(tF R).isSome) || !(tN R.tail).isSome);rw [←hbd] at hR4;obtain ⟨sv,hs1,hs2⟩:=hR4.out.bad;obtain ⟨ra,rc,x0,x1⟩:=hR4.out.cells;have fz:w4.frozen? ⟨rp,1,none⟩=false:=Lib.frozen_of_heap hs1 1
 have hEnd:=mK (fun (hno:Ce R=none)=>show Oj R rp pp w (.returned (.tuple #[])) (w4.setCell ⟨rp,1,none⟩ (.bool true)) from by
  have e5:w4.setCell ⟨rp,1,none⟩ (.bool true)=w4.setRow rp #[sv,.bool true]:=(setCell_eq_setRow w4 rp 1 _ _ _ (.bool true) hs1).trans rfl;rw [e5]
  exact ⟨rfl,hC4.trans ((Aq w4 rp _).mono fun k _ h=>.inl h),R.tail.tail,true,hs2 true,mem3 (mem3 hs.out),by simp only [List.length_tail];omega,fun _=>hno,fun h=>by cases h⟩)
 replace zp4:=mK zp4;replace hC4:=mK hC4;replace hFI:=mK hFI;clear hs1 hs2 zp3 hR3 hC3 hX4 hF hR2 hC2 hCC2 zp2 zp1 hR1 hC1 e1 y0 f0;cases bad with
 | true=>
  have hno:Ce R=none:=by
   unfold Ce;cases h1:tF R with
   | none=>rfl
   | some z=>
    obtain ⟨x,r⟩:=z;obtain rfl:=(De h1).2.2;cases h2:tN R.tail with
    | none=>simp only [Option.bind_some,h2,Option.bind_none]
    | some y=>rw [h1,h2] at hbd;cases hbd
  replace hno:=mK hno;clear hbd;go_wp2_with fail;go_end0;exact hEnd.out hno.out
 | false=>
  have h1:(tF R).isSome=true:=by
   cases h:(tF R).isSome with
   | true=>rfl
   | false=>rw [h] at hbd;cases hbd
  have h2:(tN R.tail).isSome=true:=by
   cases h:(tN R.tail).isSome with
   | true=>rfl
   | false=>rw [h,h1] at hbd;cases hbd
  clear hbd;obtain ⟨tg,e1⟩:=Gq h1;obtain ⟨⟨m,r⟩,e2⟩:=Option.isSome_iff_exists.1 h2;obtain rfl:=hN.out _ _ e2;obtain rfl:=Hm e2
  have hTB:Ce R=if 1≤n∧n≤(R.tail.tail.length:Int) then (tFs (n.toNat+1) R.tail.tail).bind fun sp=>(tNs n.toNat sp.2).bind fun pk=>(tF pk.2).bind fun pw=>(tN pw.2).bind fun co=>(tPs co.2.length co.2).map fun pt=>.best ⟨sp.1,pt,tg⟩ pk.1 pw.1 co.1 else none:=by
   unfold Ce;simp only [e1,e2,Option.bind_some]
  have hFt:=mK (hFI.out _ _ e1);have hs2:=mK (mem3 (mem3 hs.out));have hl2:R.tail.tail.length≤R.length:=by simp only [List.length_tail];omega
  obtain ⟨R2,hR2e⟩:=nmE R.tail.tail;rw [←hR2e] at hTB hR4 hs2 x0 hl2;clear h1 h2 hN hFI e1 e2 hs;replace hR2e:=mK hR2e;by_cases c1:n<1
  ·have hno:Ce R=none:=by rw [hTB,if_neg (by omega)]
   replace hno:=mK hno;clear hTB;go_wp2_with fail;go_end0;exact hEnd.out hno.out
  ·by_cases c2:(R2.length:Int)<n
   ·have hno:Ce R=none:=by rw [hTB,if_neg (by omega)]
    replace hno:=mK hno;clear hTB;go_wp2_with fail;go_end0;exact hEnd.out hno.out
   ·obtain ⟨N,rfl⟩:∃ N:Nat,n=N:=⟨n.toNat,by omega⟩
    have hN1:1≤N:=by omega
    have hN2:N≤65537:=by omega
    rw [if_pos (by omega),Int.toNat_natCast] at hTB;have hnoS:∀ m,m≤N+1→tFs m R2=none→Ce R=none:=fun m hm h=>by rw [hTB,Qq h _ hm];rfl
    have v1:IntKind.i64.wrap ((N:Int)+1)=((N+1:Nat):Int):=by rw [IntKind.wrap_i64];omega
    have st:∃ k:Nat,k≤N+1∧Value.int .i64 0=.int .i64 k∧SpQ R rp pp b R2 f tg w k w4:=
     ⟨0,Nat.zero_le _,rfl,false,nV,[],by simpa using hR4.out,hC4.out,zp4.out,rfl,Fk _ _ _ _ _,fun h=>(by cases h),fun _=>⟨hFt.out,rfl⟩⟩
    replace st:=mK st;replace hTB:=mK hTB;replace hnoS:=mK hnoS;clear hEnd hFt hR4 hC4 zp4 fz;go_wp2_with fail;clear x0 x1 sv;go_loopw [38] (fun i wr=>∃ k:Nat,k≤N+1∧i=.int .i64 k∧SpQ R rp pp b R2 f tg w k wr) (fun i _=>N+1-(intOf i).toNat)
    case atStart=>exact st.out
    case round=>
     clear st;obtain ⟨k,hk,rfl,hQ⟩:=hrel;obtain ⟨wa,rfl⟩:=nmE (wr:World);by_cases hlt:k<N+1
     ·obtain ⟨bad,s',os,hR,hC,hp,hos,hL,hbad,hgood⟩:=hQ
      have hlti:(k:Int)<((N+1:Nat):Int):=by omega
      have hcell:wa.cell? ⟨pp,15,none⟩=some s':=by simp [World.cell?,hp,pfC,pvT]
      have hRel:=mK (fun W (e:Ext wa W)=>KF.out (R2.drop k) bad W (hR.ext e) (hC.trans (Chg.of_ext e _)) fun z hz=>hs2.out z (List.mem_of_mem_drop hz));have hbw:=hBw.out wa hC;replace hR:=mK hR;replace hC:=mK hC;replace hp:=mK hp;replace hL:=mK hL;replace hbad:=mK hbad;replace hgood:=mK hgood;replace hos:=mK hos;go_upto_region 7 with fail
      go_region_law (first
       | (refine Dp rfl (.tmp 45) (.tmp 48) 31 rfl s' _ (.slice (some ⟨g2,0,none⟩) (os.length+1) c2) v4 rfl rfl hrun.out ?_)
       | (
       go_simp;go_at_call 35;refine (hRel.out _ (by first|exact xR _|exact Below.drew (xR _))).mono ?_;rintro e v2 ⟨f',rfl,hR2,hC2,hF⟩;(have hC2':Chg wa v2 (· = rp):=by first|exact hC2|exact (Chg.of_ext (Below.drew (xR wa)) _).trans hC2);(have hF':∀ x r,tF (R2.drop k)=some (x,r)→FracO v2 wa.heap.size (.agg #[.bool f'.b1,.slice f'.a1 f'.n1 f'.c1,.bool f'.b2,.slice f'.a2 f'.n2 f'.c2]) x:=hF);(have hL2:Lo 4 28 (FrJ bad b) b v2 s' os:=hL.out.ty (Ty.of_chg hC2' fun k hk=>by rw [hk];exact hlr) fun _ _ x=>x.ty (Ty.of_chg hC2' fun k hk=>by rw [hk];exact hlr) id);(obtain ⟨s2,v4,hrun,hown,hgrow,hblk⟩:=Le (sl:=31) Tryz.underlying31 Ad7 rfl (by decide) (by decide) hL2 (nT hbw hC2'.size) (by have:=hos.out;omega) (.agg #[.bool f'.b1,.slice f'.a1 f'.n1 f'.c1,.bool f'.b2,.slice f'.a2 f'.n2 f'.c2]) rfl (by
        intro u hu;simp only [Value.cells,List.mem_cons,List.not_mem_nil,or_false] at hu
        rcases hu with rfl|rfl|rfl|rfl<;>rfl));(obtain ⟨g2,c2,rfl,-,-⟩:=hown.form (by omega));(have hrun:(Builtin.append_ #[31,31] 31 #[s',.slice (some ⟨v2.heap.size,0,none⟩) 1 1]).run Tryz.prog (v2.alloc (.cells #[.bool f'.b1,.slice f'.a1 f'.n1 f'.c1,.bool f'.b2,.slice f'.a2 f'.n2 f'.c2] 28))=.ok (.slice (some ⟨g2,0,none⟩) (os.length+1) c2) v4:=hrun);(have zp2:=(hC2'.block pp (Array.getElem?_eq_some_iff.1 hp.out).1 hnp.out).trans hp.out);(have hcell2:v2.cell? ⟨pp,15,none⟩=some s':=by simp [World.cell?,zp2,pfC,pvT]);(have hx3:=(xR v2).al (.cells #[.bool f'.b1,.slice f'.a1 f'.n1 f'.c1,.bool f'.b2,.slice f'.a2 f'.n2 f'.c2] 28));(have hcell3:=hx3.cell hcell2);(have zp4:=Hx (hx3.blk zp2) hgrow (fun g hg=>(hblk g hg).1) (by decide));(have fz:v4.frozen? ⟨pp,15,none⟩=false:=Lib.frozen_of_heap zp4 15);(have cp4:v4.cell? ⟨pp,15,none⟩=some s':=by simp [World.cell?,zp4,pfC,pvT]);(have hst:SpQ R rp pp b R2 f tg w (k+1) (v4.setCell ⟨pp,15,none⟩ (.slice (some ⟨g2,0,none⟩) (os.length+1) c2)):=Ac3 ⟨hb.out,hlr,hlp,hnp.out,hC.out,hC2',hgrow,hblk⟩ hnoS.out hlt hos.out hbad.out hgood.out hR2 hF' hL2 hown zp4);(replace hst:=mK hst);(replace hrun:=mK hrun);clear hR2 hC2 hF hC2' hF' hL2 hown hgrow hblk zp2 zp4 hx3))
      all_goals
       clear hrun fz cp4 hcell hcell2 hcell3;go_wp2_with fail;go_roundw
       case rel=>exact ⟨k+1,by omega,by go_num,hst.out⟩
       case measure=>simp [intOf]<;>omega
     ·obtain rfl:k=N+1:=by omega
      obtain ⟨bad,s',os,hR,hC,hp,hos,hL,hbad,hgood⟩:=hQ;obtain ⟨R3,hR3e⟩:=nmE (R2.drop (N+1));rw [←hR3e] at hR hgood;obtain ⟨sp,hsp⟩:=nmE (os.map (·.1));rw [←hsp] at hgood;have hs3:=mK (show ∀ z∈R3,z.length≤65536 from fun z hz=>hs2.out z (List.mem_of_mem_drop (hR3e ▸ hz)));have hl3:R3.length≤R.length:=by rw [hR3e,List.length_drop];omega
      have hspl:sp.length=N+1:=by rw [hsp,List.length_map,hos]
      have hTB2:tFs (N+1) R2=some (sp,R3)→Ce R=(tNs N R3).bind fun pk=>(tF pk.2).bind fun pw=>(tN pw.2).bind fun co=>(tPs co.2.length co.2).map fun pt=>.best ⟨sp,pt,tg⟩ pk.1 pw.1 co.1:=fun h=>by
       rw [hTB.out,h];rfl
      have hnoP:∀ m,m≤N→tFs (N+1) R2=some (sp,R3)→tNs m R3=none→Ce R=none:=fun m hm h1 h=>by rw [hTB2 h1,Qo h _ hm];rfl
      have st:∃ k:Nat,k≤N∧Value.int .i64 0=.int .i64 k∧PkQ (tFs (N+1) R2=some (sp,R3)) R rp pp b R3 f s' tg sp w k wa:=
       ⟨0,Nat.zero_le _,rfl,bad,nV,[],by simpa using hR,hC,hp,rfl,Fk _ _ _ _ _,hbad,fun h=>⟨(hgood h).2,(hgood h).1,⟨os,hsp.symm,hL.mono (nR _) fun _ _ x=>x.2 h⟩,rfl⟩⟩
      obtain ⟨sS,hsS⟩:=nmE (s');rw [←hsS] at st;have hNi:¬((N+1:Nat):Int)<((N+1:Nat):Int):=by omega
      replace st:=mK st;replace hTB2:=mK hTB2;replace hnoP:=mK hnoP;replace hsS:=mK hsS;clear hR hC hp hL hbad hgood hsp hos hR3e hTB hnoS;go_wp2_with fail;go_loopw [55] (fun i wr=>∃ k:Nat,k≤N∧i=.int .i64 k∧PkQ (tFs (N+1) R2=some (sp,R3)) R rp pp b R3 f sS tg sp w k wr) (fun i _=>N-(intOf i).toNat)
      case atStart=>exact st.out
      case round=>
       clear st;obtain ⟨k,hk,rfl,hQ⟩:=hrel;obtain ⟨wb,rfl⟩:=nmE (wr:World);by_cases hlt:k<N
       ·obtain ⟨bad,s',os,hR,hC,hp,hos,hL,hbad,hgood⟩:=hQ
        have hcell:wb.cell? ⟨pp,21,none⟩=some s':=by simp [World.cell?,hp,pfC,pvT]
        have hRel:=mK (fun W (e:Ext wb W)=>KNm.out (R3.drop k) bad W (hR.ext e) (hC.trans (Chg.of_ext e _)) fun z hz=>hs3.out z (List.mem_of_mem_drop hz));have hbw:=hBw.out wb hC;replace hR:=mK hR;replace hC:=mK hC;replace hp:=mK hp;replace hL:=mK hL;replace hbad:=mK hbad;replace hgood:=mK hgood;replace hos:=mK hos;go_upto_region 11 with fail
        go_region_law (first
         | (refine Dp rfl (.tmp 62) (.tmp 65) 35 rfl s' _ (.slice (some ⟨g2,0,none⟩) (os.length+1) c2) v4 rfl rfl hrun.out ?_)
         | (
         go_simp;go_at_call 36;refine (hRel.out _ (by first|exact xR _|exact Below.drew (xR _))).mono ?_;rintro e v2 ⟨n',rfl,hR2,hC2,hF⟩;(have hC2':Chg wb v2 (· = rp):=by first|exact hC2|exact (Chg.of_ext (Below.drew (xR wb)) _).trans hC2);(have hL2:Lo 1 3 NumA b v2 s' os:=hL.out.ty (Ty.of_chg hC2' fun k hk=>by rw [hk];exact hlr) fun _ _ x=>x);(obtain ⟨s2,v4,hrun,hown,hgrow,hblk⟩:=Le (sl:=35) Tryz.underlying35 Ab2 rfl (by decide) (by decide) hL2 (nT hbw hC2'.size) (by have:=hos.out;omega) (.int .i64 n') rfl (by
          intro u hu;simp only [Value.cells,List.mem_cons,List.not_mem_nil,or_false] at hu
          rcases hu with rfl;rfl));(obtain ⟨g2,c2,rfl,-,-⟩:=hown.form (by omega));(have hrun:(Builtin.append_ #[35,35] 35 #[s',.slice (some ⟨v2.heap.size,0,none⟩) 1 1]).run Tryz.prog (v2.alloc (.cells #[.int .i64 n'] 3))=.ok (.slice (some ⟨g2,0,none⟩) (os.length+1) c2) v4:=hrun);(have zp2:=(hC2'.block pp (Array.getElem?_eq_some_iff.1 hp.out).1 hnp.out).trans hp.out);(have hcell2:v2.cell? ⟨pp,21,none⟩=some s':=by simp [World.cell?,zp2,pfC,pvT]);(have hx3:=(xR v2).al (.cells #[.int .i64 n'] 3));(have hcell3:=hx3.cell hcell2);(have zp4:=Hx (hx3.blk zp2) hgrow (fun g hg=>(hblk g hg).1) (by decide));(have fz:v4.frozen? ⟨pp,21,none⟩=false:=Lib.frozen_of_heap zp4 21);(have cp4:v4.cell? ⟨pp,21,none⟩=some s':=by simp [World.cell?,zp4,pfC,pvT]);(have hst:PkQ (tFs (N+1) R2=some (sp,R3)) R rp pp b R3 f sS tg sp w (k+1) (v4.setCell ⟨pp,21,none⟩ (.slice (some ⟨g2,0,none⟩) (os.length+1) c2)):=Add ⟨hb.out,hlr,hlp,hnp.out,hC.out,hC2',hgrow,hblk⟩ hnoP.out hlt hos.out hbad.out hgood.out hR2 hF hL2 hown zp4);(replace hst:=mK hst);(replace hrun:=mK hrun);clear hR2 hC2 hF hC2' hL2 hown hgrow hblk zp2 zp4 hx3))
        all_goals
         clear hrun fz cp4 hcell hcell2 hcell3;go_wp2_with fail;go_roundw
         case rel=>exact ⟨k+1,by omega,by go_num,hst.out⟩
         case measure=>simp [intOf]<;>omega
       ·obtain rfl:N=k:=by omega
        obtain ⟨bad,sP,os,hR,hC,hp,hos,hL,hbad,hgood⟩:=hQ;obtain ⟨R4,hR4e⟩:=nmE (R3.drop N);rw [←hR4e] at hR hgood;obtain ⟨pk,hpk⟩:=nmE (os.map (·.1));rw [←hpk] at hgood;have hs4:=mK (show ∀ z∈R4,z.length≤65536 from fun z hz=>hs3.out z (List.mem_of_mem_drop (hR4e ▸ hz)));have hl4:R4.length≤R.length:=by rw [hR4e,List.length_drop];omega
        have hpkl:pk.length=N:=by rw [hpk,List.length_map,hos]
        have hL':∃ os:List (Int×Value),os.map (·.1)=pk∧Lo 1 3 NumA b wb sP os:=⟨os,hpk.symm,hL⟩
        have hTB3:bad=false→Ce R=(tF R4).bind fun pw=>(tN pw.2).bind fun co=>(tPs co.2.length co.2).map fun pt=>.best ⟨sp,pt,tg⟩ pk pw.1 co.1:=fun h=>by
         rw [hTB2.out (hgood h).1,(hgood h).2.2.2];rfl
        have hNi2:¬(N:Int)<(N:Int):=by omega
        replace hR:=mK hR;replace hC:=mK hC;replace hp:=mK hp;replace hL':=mK hL';replace hbad:=mK hbad;replace hgood:=mK hgood;replace hTB3:=mK hTB3;clear hL hpk hos hR4e;have tok:Tok 10:=.mk _
        go_upto_region 14 with (first
         | (replace tok:Tok 11:=nxT 10 tok;go_at_call 35;refine (KF.out R4 bad _ hR.out hC.out hs4.out).mono ?_;rintro e v1 ⟨g,rfl,hR1,hC1,hF⟩;(have hCC1:=mK (hC.out.trans (Ax hC1 pp)));(have zp1:=mK ((hC1.block pp (Array.getElem?_eq_some_iff.1 hp.out).1 hnp.out).trans hp.out));(replace hR1:=mK hR1);(replace hC1:=mK hC1);(replace hF:=mK hF))
         | (replace tok:Tok 12:=nxT 11 tok;go_at_call 36;refine (KNm.out R4.tail _ _ hR1.out hCC1.out (mem3 hs4.out)).mono ?_;rintro e v2 ⟨co,rfl,hR2,hC2,hN⟩;(have hCC2:=mK (hCC1.out.trans (Ax hC2 pp)));(have zp2:=mK ((hC2.block pp (Array.getElem?_eq_some_iff.1 zp1.out).1 hnp.out).trans zp1.out));(have zq:=setRow_heap v2 pp _ (pfC (pvT f sS nV sP g 0)) _ _ zp2.out);(have fz26:=Lib.frozen_of_heap zq 26);(have y26:(v2.setRow pp (pfC (pvT f sS nV sP g 0))).cell? ⟨pp,26,none⟩=some (.int .i64 0):=Al zq 26);(replace hR2:=mK hR2);(replace hC2:=mK hC2);(replace hN:=mK hN);(replace zq:=mK zq))
         | (replace tok:Tok 13:=nxT 12 tok;refine Bg rfl 28 (.tmp 79) (.tmp 74) rfl pp 22 rfl 39 (pfC (pvT f sS nV sP zFd 0)) (pfC (pvT f sS nV sP g 0)) #[.bool g.b1,.slice g.a1 g.n1 g.c1,.bool g.b2,.slice g.a2 g.n2 g.c2] rfl zp2.out (by kernel_rfl) (by show 26≤27;omega) (by kernel_rfl) (by kernel_rfl) ?_))
        clear tok;obtain ⟨pw,hst⟩:=Aa0 hb.out hlr hlp hnp.out hC.out hC1.out hC2.out hs4.out hl4 hlen hR2.out hF.out hN.out hbad.out (fun h=>⟨(hgood.out h).2.1,(hgood.out h).2.2.1⟩) hL'.out hTB3.out zp2.out;replace hst:=mK hst;clear hR hC hp hL' hbad hgood hTB3 hR1 hC1 hF hCC1 zp1 hR2 hC2 hN hCC2 zp2 zq fz26 y26 hTB2 hnoP hs4 hs3 hs2;go_wp2_with fail;go_loopw [] (fun wr=>PtQ R rp pp b f g sS sP tg pw sp pk co w wr) (fun wr=>Gs rp wr)
        case atStart=>exact hst.out
        case round=>
         clear hst;obtain ⟨wc,rfl⟩:=nmE (wr:World);obtain ⟨R',bad',hR,hC,hRx,hRl,hbad,hgood⟩:=hrel;obtain ⟨ra',rc',x0,x1⟩:=hR.cells;cases bad' with
         | true=>
          have hno:=mK (hbad rfl);have hfin:=mK (show Oj R rp pp w (.returned (.tuple #[])) wc from ⟨rfl,hC,R',true,hR,hRx,hRl,fun _=>hno.out,fun h=>by cases h⟩);clear hgood hbad hRx hC hR hno;by_cases hl:0<R'.length
          ·have hl1:(0:Int)<(R'.length:Int):=by omega
           go_wp2_with fail;go_end0;exact hfin.out
          ·have hl1:¬(0:Int)<(R'.length:Int):=by omega
           go_wp2_with fail;go_end0;exact hfin.out
         | false=>
          obtain ⟨s',os,hp,hO,hL,hLl,hfin,hno,hco⟩:=hgood rfl;clear hgood hbad;by_cases hl:0<R'.length
          ·have hl1:(0:Int)<(R'.length:Int):=by omega
           have hne:R'≠[]:=fun e=>by rw [e] at hl;simp at hl
           have hcell:wc.cell? ⟨pp,16,none⟩=some s':=by simp [World.cell?,hp,pfC,pvT]
           have hRelW:=mK (fun W (e:Ext wc W)=>Ej rp R' false W (hR.ext e));have hbw:=hBw.out wc hC;have hrl:=hR.len;have hie:(false||R'.isEmpty)=false:=by cases R' with|nil=>exact absurd rfl hne|cons x t=>rfl
           replace hrl:=mK hrl;replace hR:=mK hR;replace hC:=mK hC;replace hp:=mK hp;replace hO:=mK hO;replace hL:=mK hL;replace hfin:=mK hfin;replace hno:=mK hno;replace hco:=mK hco;replace hRx:=mK hRx;replace hie:=mK hie;replace hne:=mK hne;obtain ⟨nm,hnm⟩:∃ nm:ByteArray,nm=⟨(R'.headD []).toArray⟩:=⟨_,rfl⟩
           rw [←hnm] at hRelW;replace hnm:=mK hnm;go_upto_region 15 with fail
           go_region_law (first
            | (refine Dp rfl (.tmp 101) (.tmp 109) 32 rfl s' _ (.slice (some ⟨g2,0,none⟩) (os.length+1) c2) v4 rfl rfl hrun.out ?_)
            | (
            go_simp;go_at_call 34;refine (hRelW.out _ (by first|exact xR _|exact Below.drew (xR _))).mono ?_;rintro e va ⟨rfl,hRa,hCa⟩;(have hCa':Chg wc va (· = rp):=by first|exact hCa|exact (Chg.of_ext (Below.drew (xR wc)) _).trans hCa);(rw [hie.out] at hRa);(have zpa:=(hCa'.block pp (Array.getElem?_eq_some_iff.1 hp.out).1 hnp.out).trans hp.out);(have hcella:va.cell? ⟨pp,16,none⟩=some s':=by simp [World.cell?,zpa,pfC,pvT]);(replace hRa:=mK hRa);(replace hCa':=mK hCa');(replace zpa:=mK zpa);clear hCa)
            | (
            go_simp;go_at_call 36;refine (KNm.out R'.tail false _ hRa.out (hC.out.trans (Ax hCa'.out pp)) (mem3 hRx.out)).mono ?_;rintro e vb ⟨n',rfl,hRb,hCb,hNb⟩;(have zpb:=(hCb.block pp (Array.getElem?_eq_some_iff.1 zpa.out).1 hnp.out).trans zpa.out);(have hcellb:vb.cell? ⟨pp,16,none⟩=some s':=by simp [World.cell?,zpb,pfC,pvT]);(replace hRb:=mK hRb);(replace hCb:=mK hCb);(replace hNb:=mK hNb);(replace zpb:=mK zpb))
            | (
            go_simp;go_at_call 38;refine (KE.out R'.tail.tail _ _ hRb.out ((hC.out.trans (Ax hCa'.out pp)).trans (Ax hCb.out pp)) (mem3 (mem3 hRx.out))).mono ?_;rintro e v2 ⟨kd,p,q,j,rfl,hR2,hC2,hok⟩;(have hC2':Chg wc v2 (· = rp):=(hCa'.out.trans hCb.out).trans hC2);(have hT2:∀ T,Ty b T wc v2:=fun T=>Ty.of_chg hC2' fun k hk=>by rw [hk];exact hlr);(have hL2:Lo 11 74 (PrI b) b v2 s' os:=hL.out.ty (hT2 _) fun _ _ x=>x.ty (hT2 _));(obtain ⟨s2,v4,hrun,hown,hgrow,hblk⟩:=Le (sl:=32) Tryz.underlying32 Ad6 rfl (by decide) (by decide) hL2 (nT hbw hC2'.size) (by omega) (.agg #[.string nm,.int .u8 kd,.bool p.b1,.slice p.a1 p.n1 p.c1,.bool p.b2,.slice p.a2 p.n2 p.c2,.bool q.b1,.slice q.a1 q.n1 q.c1,.bool q.b2,.slice q.a2 q.n2 q.c2,.int .i64 n']) rfl (by
             intro u hu;simp only [Value.cells,List.mem_cons,List.not_mem_nil,or_false] at hu
             rcases hu with rfl|rfl|rfl|rfl|rfl|rfl|rfl|rfl|rfl|rfl|rfl<;>rfl));(obtain ⟨g2,c2,rfl,-,-⟩:=hown.form (by omega));(have hrun:(Builtin.append_ #[32,32] 32 #[s',.slice (some ⟨v2.heap.size,0,none⟩) 1 1]).run Tryz.prog (v2.alloc (.cells #[.string nm,.int .u8 kd,.bool p.b1,.slice p.a1 p.n1 p.c1,.bool p.b2,.slice p.a2 p.n2 p.c2,.bool q.b1,.slice q.a1 q.n1 q.c1,.bool q.b2,.slice q.a2 q.n2 q.c2,.int .i64 n'] 74))=.ok (.slice (some ⟨g2,0,none⟩) (os.length+1) c2) v4:=hrun);(have zp2:=(hC2.block pp (Array.getElem?_eq_some_iff.1 zpb.out).1 hnp.out).trans zpb.out);(have hcell2:v2.cell? ⟨pp,16,none⟩=some s':=by simp [World.cell?,zp2,pfC,pvT]);(have hx3:=(xR v2).al (.cells #[.string nm,.int .u8 kd,.bool p.b1,.slice p.a1 p.n1 p.c1,.bool p.b2,.slice p.a2 p.n2 p.c2,.bool q.b1,.slice q.a1 q.n1 q.c1,.bool q.b2,.slice q.a2 q.n2 q.c2,.int .i64 n'] 74));(have hcell3:=hx3.cell hcell2);(have zp4:=Hx (hx3.blk zp2) hgrow (fun g hg=>(hblk g hg).1) (by decide));(have fz:v4.frozen? ⟨pp,16,none⟩=false:=Lib.frozen_of_heap zp4 16);(have cp4:v4.cell? ⟨pp,16,none⟩=some s':=by simp [World.cell?,zp4,pfC,pvT]);(have hst:PtQ R rp pp b f g sS sP tg pw sp pk co w (v4.setCell ⟨pp,16,none⟩ (.slice (some ⟨g2,0,none⟩) (os.length+1) c2))∧Gs rp (v4.setCell ⟨pp,16,none⟩ (.slice (some ⟨g2,0,none⟩) (os.length+1) c2))<Gs rp wc:=by (have hnm':=hnm.out);subst hnm';exact Adb ⟨hb.out,hlr,hlp,hnp.out,hC.out,hC2',hgrow,hblk⟩ hrl.out hRx.out hRl hne.out hO.out hLl hfin.out hno.out hco.out hR2 hNb.out (nT hbw (hCa'.out.trans hCb.out).size) hok hL2 hown zp4);(replace hst:=mK hst);(replace hrun:=mK hrun);clear hR2 hC2 hok hC2' hT2 hL2 hown hgrow hblk zp2 zp4 hx3))
           all_goals
            clear hrun fz cp4 hcell hcell2 hcell3 hcella hcellb;go_wp2_with fail;go_roundw
            case rel=>exact hst.out.1
            case measure=>exact hst.out.2
          ·have hl1:¬(0:Int)<(R'.length:Int):=by omega
           have hR0:R'=[]:=List.eq_nil_of_length_eq_zero (by omega);have hT:=hfin [] (by rw [hR0];rfl);rw [List.append_nil] at hT;have hq:=mK (show Oj R rp pp w (.returned (.tuple #[])) wc from ⟨rfl,hC,R',false,hR,hRx,hRl,fun h=>(by cases h),fun _=>⟨hR0,⟨sp,os.map (·.1),tg⟩,pk,pw,co,pvT f sS s' sP g co,hT,hp,(by rw [←hb.out];exact hO.pf hL hco),⟨rfl,rfl,rfl,rfl,rfl,rfl⟩,(by show sp.length≤_;omega),(by show (os.map (·.1)).length≤_;rw [List.length_map];omega),(by omega)⟩⟩);clear hT hfin hno hO hL hp hRx hC hR;go_wp2_with fail;go_end0;exact hq.out
theorem Jz (s:ByteArray)(w:World)(hs:s.size≤65536)(hm:∀ W,Ext w W→Max0 W∧Tab10 W∧ErrA W):Calls Tryz.prog 10 #[.string s] w (DecQ (Ar 32 s.data.toList) w):=
 Acb (fun rp pp R w h1 h2 h3 h4 h5 h6=>Agf rp pp R w h1 h2 h3 h4 h5 h6) s w hs hm
theorem Lf {w:World}{x:PVd}{d:AD}(h:AnyPf w x d):(pfC x).all (·.oneCell')=true:=by
 obtain ⟨⟨o1,-,h1⟩,⟨o2,-,h2⟩,⟨o3,-,h3⟩,⟨o4,-,h4⟩,-⟩:=h;obtain ⟨a1,c1,e1,-⟩:=h1.slice;obtain ⟨a2,c2,e2,-⟩:=h2.slice;obtain ⟨a3,c3,e3,-⟩:=h3.slice;obtain ⟨a4,c4,e4,-⟩:=h4.slice;obtain ⟨kd,s1,y,u,m,st,s2,s3,tg,s4,pw,co⟩:=x;simp only at e1 e2 e3 e4;subst e1 e2 e3 e4;simp [pfC,Value.oneCell']
theorem Pe (s:ByteArray)(f:PF)(w:World)(hs:s.size≤65536)(hm:∀ W,Ext w W→Max0 W∧Tab10 W∧ErrA W)(h:tPF (Ar 32 s.data.toList)=some f)(hok:okPF f) :
  Calls Tryz.prog 10 #[.string s] w fun e w'=>∃ x d,e=.returned (.tuple #[.agg (pfC x),.int .i64 0])∧AnyPf w' x d∧Bw x d=true∧PfR w' x f∧(d.be.length≤1099511627776∧d.sp.length≤1099511627776∧d.pt.length≤1099511627776∧d.pk.length≤1099511627776)∧Ext w w':=by
 refine (Jz s w hs hm).mono ?_;rintro e w' ⟨⟨f',x,d,h1,h2,h3,h4,h5,h6,h7⟩|⟨h1,-⟩,hx⟩
 ·rw [h] at h1
  cases h1;exact ⟨x,d,h3,h4,h5,h6,h7,hx⟩
 ·exact absurd hok (h1 f h)
theorem Aa4 (s:ByteArray)(w:World)(hm:∀ W,Ext w W→Max0 W∧Tab10 W∧ErrA W)(h:65536<s.size∨∀ f,tPF (Ar 32 s.data.toList)=some f→¬okPF f) :
  Calls Tryz.prog 10 #[.string s] w fun e w'=>∃ E:Int,e=.returned (.tuple #[.agg (pfC zPV),.int .i64 E])∧(E != 0)=true∧Ext w w':=by
 by_cases hs:65536<s.size
 ·exact (Uz s w hs).mono fun e w' ⟨h1,h2⟩=>⟨4,h1,rfl,h2⟩
 ·have h:=h.resolve_left hs
  refine (Jz s w (by omega) hm).mono ?_;rintro e w' ⟨⟨f',x,d,h1,h2,-⟩|⟨-,h2⟩,hx⟩
  ·exact absurd h2 (h f' h1)
  ·exact ⟨5,h2,rfl,hx⟩
theorem Zr (x:PVd)(l1 l2 l3 l4:List Value)(s:ByteArray)(w:World)(h:RawPf w x l1 l2 l3 l4)(hs:s.size≤140737488355328)(hm:∀ W,Ext w W→Max0 W∧Tab10 W∧ErrA W)
  (hL:∀ W,Ext w W→Calls Tryz.prog 14 #[] W fun e w'=>e=.returned (.bool true)∧Ext W w') :
  Calls Tryz.prog 4 #[.agg (pfC x),.string s] w fun e w'=>e=.returned (.bool true)∧Ext w w':=by
 obtain ⟨w1,hw1⟩:=nmE (w.alloc (.cells (pfC x) 39));have hE1:=aLe1 hw1;have zP:=aL10 hw1;have zE:=mK (fun W (e:Ext w1 W)=>e.blk zP);have KC:=mK (Tl h w1 hE1);obtain ⟨q0,q1,-⟩:=Rg h;have hAny:Ha x l1 l2 l3 l4≤1048576→∃ d:AD,AnyPf w x d∧d.be.length≤1048576∧d.sp.length≤1048576∧d.pt.length≤1048576∧d.pk.length≤1048576:=fun hh=>Xv h hh;obtain ⟨N,hN⟩:=nmE (Ha x l1 l2 l3 l4);rw [←hN] at KC q0 q1 hAny;have s4:∃ a n c,x.s4=.slice a n c:=by obtain ⟨a,c,e,-⟩:=h.pk.slice;exact ⟨a,_,c,e⟩
 have s1:∃ a n c,x.s1=.slice a n c:=by obtain ⟨a,c,e,-⟩:=h.be.slice;exact ⟨a,_,c,e⟩
 have s2:∃ a n c,x.s2=.slice a n c:=by obtain ⟨a,c,e,-⟩:=h.sp.slice;exact ⟨a,_,c,e⟩
 have s3:∃ a n c,x.s3=.slice a n c:=by obtain ⟨a,c,e,-⟩:=h.pt.slice;exact ⟨a,_,c,e⟩
 clear h hN;obtain ⟨Cx,hCx⟩:=nmE (pfC x);have hCn:Cx.size=27:=by rw [hCx];rfl
 rw [←hCx] at hw1 zE KC ⊢;replace hw1:=mK hw1;replace hE1:=mK hE1;replace hm:=mK hm;replace hL:=mK hL;replace hAny:=mK hAny;replace hCx:=mK hCx;clear zP;obtain ⟨zc,hzf⟩:=nmE (pfC zPV);have hzc:=hzf;simp only [pfC,zPV] at hzc;have hzn:zc.size=27:=by rw [hzf];rfl
 have hz1:zc.all (·.oneCell')=true:=by rw [hzf];simp [pfC,zPV,Value.oneCell']
 replace hzc:=mK hzc;replace hzf:=mK hzf;replace hz1:=mK hz1;go_enter Tryz.func4,Tryz.ntmps4;have tok:Tok 0:=.mk _
 go_upto_if 18 with (first
  | (replace tok:Tok 1:=nxT 0 tok;rw [←hw1.out];refine wpList_load_row (by rfl) 39 (.tmp 2) rfl w.heap.size rfl 39 Cx (0,0) _ (zE.out _ (xR _)) Tryz.underlying39 rfl (by rw [hCn];kernel_rfl) ?_)
  | (replace tok:Tok 2:=nxT 1 tok;go_at_call 6;refine KC.out.mono ?_;rintro e w2 ⟨rfl,hx2⟩)
  | (replace tok:Tok 3:=nxT 2 tok;go_at_call 5;refine (Zq w2.heap.size 2 N s.size _ q0 q1 (by omega) (by omega) (by go_simp) (by go_simp)).mono ?_;rintro e w3 ⟨v,rfl,hx3,r,rfl,hb⟩;(have hE3:=mK ((hx2.al _).trans hx3));(replace hb:=mK hb);clear hx2 hx3))
 clear tok KC;cases r with
 | true=>
  go_wp2_with (go_at_call 14;refine (hL.out _ (hE1.out.trans hE3.out)).mono ?_;rintro e w4 ⟨rfl,hx4⟩);go_ret;exact ⟨rfl,hE1.out.trans (hE3.out.trans hx4)⟩
 | false=>
  obtain ⟨d,hA,d1,d2,d3,d4⟩:=hAny.out (by have:=hb.out rfl;omega);have hB:d.be.length≤1099511627776∧d.sp.length≤1099511627776∧d.pt.length≤1099511627776∧d.pk.length≤1099511627776:=⟨by omega,by omega,by omega,by omega⟩
  have hEw:=mK (hE1.out.trans hE3.out);clear hAny hb d1 d2 d3 d4 q0 q1 s1 s2 s3 s4 hs;by_cases hmay:Bw x d=true
  ·obtain ⟨f,hP,hok⟩:=Agw hA hmay
   have KE:=Hg x d f w3 (hA.ext hEw.out) hB hmay (hP.ext hEw.out) hok (fun V k=>(hm.out V (hEw.out.trans k)).2.1);rw [←hCx.out] at KE;by_cases hlen:(Aw f).length≤65536
   ·have KE':Calls Tryz.prog 8 #[.agg Cx] w3 fun e w'=>e=.returned (.tuple #[.string ⟨(Aw f).toArray⟩,.int .i64 0])∧Ext w3 w':=KE.mono fun e w' ⟨h1,h2⟩=>⟨by rw [h1,if_pos hlen],h2⟩
    obtain ⟨T,hT⟩:∃ T:ByteArray,T=⟨(Aw f).toArray⟩:=⟨_,rfl⟩
    have hTs:T.size≤65536:=by rw [hT];show (Aw f).toArray.size≤_;rw [List.size_toArray];exact hlen
    have hTt:tPF (Ar 32 T.data.toList)=some f:=by rw [hT];exact Aaj hok
    rw [←hT] at KE';have KD1:=mK (fun W (e:Ext w W)=>Pe T f W hTs (fun V k=>hm.out V (e.trans k)) hTt hok);have KS:=mK (fun (x':PVd) W (e:Ext w W) (h':PfR W x' f)=>Fp x x' W (Afq (hP.ext e) h' hok));rw [←hCx.out] at KS;replace KE':=mK KE';clear KE hT hTs hTt hP hok hlen hA hmay hB;have tok:Tok 10:=.mk _
    go_upto_region 8 with (first
     | (replace tok:Tok 11:=nxT 10 tok;refine wpList_load_row (by rfl) 39 (.tmp 2) rfl w.heap.size rfl 39 Cx (0,0) _ (zE.out _ hE3.out) Tryz.underlying39 rfl (by rw [hCn];kernel_rfl) ?_)
     | (replace tok:Tok 12:=nxT 11 tok;go_at_call 8;refine KE'.out.mono ?_;rintro e w4 ⟨rfl,hx4⟩;(replace hx4:=mK hx4))
     | (replace tok:Tok 13:=nxT 12 tok;go_at_call 10;refine (KD1.out _ (hEw.out.trans hx4.out)).mono ?_;rintro e w5 ⟨x',d',rfl,hA1,hM1,hP1,hB1,hx5⟩;(obtain ⟨cs,hcs⟩:=nmE (pfC x'));(have hcn:cs.size=27:=by rw [hcs];rfl);(have hc1:cs.all (·.oneCell')=true:=by rw [hcs];exact Lf hA1);(rw [←hcs]);(replace hcs:=mK hcs);(replace hc1:=mK hc1);(replace hP1:=mK hP1);(have hE5:=mK (hE3.out.trans (hx4.out.trans hx5)));clear hx5 hA1 hM1 hB1)
     | (replace tok:Tok 14:=nxT 13 tok;rw [←hzc.out];refine wpList_store_row rfl 39 (.tmp 7) (.tmp 30) rfl w5.heap.size cs rfl rfl 39 _ (heap_alloc_new _ _) (by rw [hcn];kernel_rfl) (by rw [hcn,hzn]) hc1.out ?_)
     | (replace tok:Tok 15:=nxT 14 tok;(have hx6:=mK (((xR w5).al (.cells zc 39)).row (g:=w5.heap.size) (nR _) cs));refine Ag (by rfl) 39 (.tmp 2) rfl w.heap.size 0 rfl 39 Cx Cx (0,0) _ (zE.out _ (hE5.out.trans hx6.out)) (by simp) Tryz.underlying39 rfl (by rw [hCn];kernel_rfl) ?_)
     | (replace tok:Tok 16:=nxT 15 tok;refine Ag (by rfl) 39 (.tmp 7) rfl w5.heap.size 0 rfl 39 cs cs (0,0) _ (setRow_heap _ _ _ _ _ _ (heap_alloc_new _ _)) (by simp) Tryz.underlying39 rfl (by rw [hcn];kernel_rfl) ?_)
     | (replace tok:Tok 17:=nxT 16 tok;go_at_call 13;(have KS':=KS.out x' _ (hE1.out.trans (hE5.out.trans hx6.out)) (hP1.out.ext hx6.out));(rw [←hcs.out] at KS');refine KS'.mono ?_;rintro e w7 ⟨rfl,hx7⟩;(have hEa:=mK (hE1.out.trans (hE5.out.trans (hx6.out.trans hx7))));clear hx7))
    clear tok KD1 KS KE' hcs hc1 hP1 hcn;by_cases hyes:s.size≤65536∧∃ f,tPF (Ar 32 s.data.toList)=some f∧okPF f
    ·obtain ⟨hsz,f,hf,hok⟩:=hyes
     have hbk:=Gw hf hok;have hst:(⟨(Aw f).toArray⟩:ByteArray)=s:=by rw [hbk]
     have hln:(Aw f).length≤65536:=by rw [hbk,Array.length_toList];exact hsz
     have KD:=mK (fun W (e:Ext w W)=>Pe s f W hsz (fun V k=>hm.out V (e.trans k)) hf hok);have KE:=mK (fun (x':PVd) (d':AD) W (e:Ext w W) (h1:AnyPf W x' d') (h2:Bw x' d'=true) (h3:PfR W x' f) hb=>Hg x' d' f W h1 hb h2 h3 hok (fun V k=>(hm.out V (e.trans k)).2.1));have hbeq:(s.toList==s.toList)=true:=by simp
     replace hst:=mK hst;replace hln:=mK hln;clear hf hbk hsz hok;have tok:Tok 40:=.mk _
     go_wp2_with (first
      | (replace tok:Tok 41:=nxT 40 tok;go_at_call 10;refine (KD.out _ hEa.out).mono ?_;rintro e v1 ⟨x',d',rfl,hA1,hM1,hP1,hB1,hx1⟩;(obtain ⟨cs,hcs⟩:=nmE (pfC x'));(have hcn:cs.size=27:=by rw [hcs];rfl);(have hc1:cs.all (·.oneCell')=true:=by rw [hcs];exact Lf hA1);(rw [←hcs]);(replace hcs:=mK hcs);(replace hc1:=mK hc1);(replace hA1:=mK hA1);(replace hM1:=mK hM1);(replace hP1:=mK hP1);(replace hB1:=mK hB1);(have hE1:=mK (hEa.out.trans hx1));clear hx1)
      | (replace tok:Tok 42:=nxT 41 tok;rw [←hzc.out];refine wpList_store_row rfl 39 (.tmp 9) (.tmp 43) rfl v1.heap.size cs rfl rfl 39 _ (heap_alloc_new _ _) (by rw [hcn];kernel_rfl) (by rw [hcn,hzn]) hc1.out ?_)
      | (replace tok:Tok 43:=nxT 42 tok;refine wpList_load_row (by rfl) 39 (.tmp 9) rfl v1.heap.size rfl 39 cs (0,0) _ (setRow_heap _ _ _ _ _ _ (heap_alloc_new _ _)) Tryz.underlying39 rfl (by rw [hcn];kernel_rfl) ?_)
      | (replace tok:Tok 44:=nxT 43 tok;go_at_call 8;rw [hcs.out];(have hx2:=((xR v1).al (.cells zc 39)).row (g:=v1.heap.size) (nR _) (pfC x'));refine (KE.out x' d' _ (hE1.out.trans hx2) (hA1.out.ext hx2) hM1.out (hP1.out.ext hx2) hB1.out).mono ?_;rintro e v3 ⟨hq,hx3⟩;(rw [if_pos hln.out,hst.out] at hq);subst hq;(have hE3:=mK (hE1.out.trans (hx2.trans hx3)));clear hx2 hx3)
      | (replace tok:Tok 45:=nxT 44 tok;go_at_call 14;refine (hL.out _ hE3.out).mono ?_;rintro e v4 ⟨rfl,hx4⟩))
     go_ret;exact ⟨rfl,hE3.out.trans hx4⟩
    ·have hno:65536<s.size∨∀ f,tPF (Ar 32 s.data.toList)=some f→¬okPF f:=by
      by_cases hsz:s.size≤65536
      ·exact .inr fun f h1 h2=>hyes ⟨hsz,f,h1,h2⟩
      ·exact .inl (by omega)
     have KD:=mK (fun W (e:Ext w W)=>Aa4 s W (fun V k=>hm.out V (e.trans k)) hno);have KZ:=mK (fun W=>Fp zPV zPV W (Lq W));rw [←hzf.out] at KD KZ;clear hyes hno;have tok:Tok 40:=.mk _
     go_wp2_with (first
      | (replace tok:Tok 41:=nxT 40 tok;go_at_call 10;refine (KD.out _ hEa.out).mono ?_;rintro e v1 ⟨E,rfl,hE,hx1⟩;(have hE1:=mK (hEa.out.trans hx1));clear hx1)
      | (replace tok:Tok 42:=nxT 41 tok;rw [←hzc.out];refine wpList_store_row rfl 39 (.tmp 9) (.tmp 43) rfl v1.heap.size zc rfl rfl 39 _ (heap_alloc_new _ _) (by rw [hzn];kernel_rfl) rfl hz1.out ?_)
      | (replace tok:Tok 43:=nxT 42 tok;refine wpList_load_row (by rfl) 39 (.tmp 9) rfl v1.heap.size rfl 39 zc (0,0) _ (setRow_heap _ _ _ _ _ _ (heap_alloc_new _ _)) Tryz.underlying39 rfl (by rw [hzn];kernel_rfl) ?_)
      | (replace tok:Tok 44:=nxT 43 tok;go_at_call 13;rw [←hzc.out];(have hx2:=((xR v1).al (.cells zc 39)).row (g:=v1.heap.size) (nR _) zc);refine (KZ.out _).mono ?_;rintro e v3 ⟨rfl,hx3⟩;(have hE3:=mK (hE1.out.trans (hx2.trans hx3)));clear hx2 hx3)
      | (replace tok:Tok 45:=nxT 44 tok;go_at_call 14;refine (hL.out _ hE3.out).mono ?_;rintro e v4 ⟨rfl,hx4⟩))
     go_ret;exact ⟨rfl,hE3.out.trans hx4⟩
   ·have KE':Calls Tryz.prog 8 #[.agg Cx] w3 fun e w'=>e=.returned (.tuple #[.string ⟨#[]⟩,.int .i64 4])∧Ext w3 w':=KE.mono fun e w' ⟨h1,h2⟩=>⟨by rw [h1,if_neg hlen],h2⟩
    replace KE':=mK KE';clear KE hP hok hlen hA hmay hB;have tok:Tok 10:=.mk _
    go_upto_region 8 with (first
     | (replace tok:Tok 11:=nxT 10 tok;refine wpList_load_row (by rfl) 39 (.tmp 2) rfl w.heap.size rfl 39 Cx (0,0) _ (zE.out _ hE3.out) Tryz.underlying39 rfl (by rw [hCn];kernel_rfl) ?_)
     | (replace tok:Tok 12:=nxT 11 tok;go_at_call 8;refine KE'.out.mono ?_;rintro e w4 ⟨rfl,hx4⟩;(have hEa:=mK (hEw.out.trans hx4));clear hx4))
    clear tok KE';by_cases hyes:s.size≤65536∧∃ f,tPF (Ar 32 s.data.toList)=some f∧okPF f
    ·obtain ⟨hsz,f,hf,hok⟩:=hyes
     have hbk:=Gw hf hok;have hst:(⟨(Aw f).toArray⟩:ByteArray)=s:=by rw [hbk]
     have hln:(Aw f).length≤65536:=by rw [hbk,Array.length_toList];exact hsz
     have KD:=mK (fun W (e:Ext w W)=>Pe s f W hsz (fun V k=>hm.out V (e.trans k)) hf hok);have KE:=mK (fun (x':PVd) (d':AD) W (e:Ext w W) (h1:AnyPf W x' d') (h2:Bw x' d'=true) (h3:PfR W x' f) hb=>Hg x' d' f W h1 hb h2 h3 hok (fun V k=>(hm.out V (e.trans k)).2.1));have hbeq:(s.toList==s.toList)=true:=by simp
     replace hst:=mK hst;replace hln:=mK hln;clear hf hbk hsz hok;have tok:Tok 40:=.mk _
     go_wp2_with (first
      | (replace tok:Tok 41:=nxT 40 tok;go_at_call 10;refine (KD.out _ hEa.out).mono ?_;rintro e v1 ⟨x',d',rfl,hA1,hM1,hP1,hB1,hx1⟩;(obtain ⟨cs,hcs⟩:=nmE (pfC x'));(have hcn:cs.size=27:=by rw [hcs];rfl);(have hc1:cs.all (·.oneCell')=true:=by rw [hcs];exact Lf hA1);(rw [←hcs]);(replace hcs:=mK hcs);(replace hc1:=mK hc1);(replace hA1:=mK hA1);(replace hM1:=mK hM1);(replace hP1:=mK hP1);(replace hB1:=mK hB1);(have hE1:=mK (hEa.out.trans hx1));clear hx1)
      | (replace tok:Tok 42:=nxT 41 tok;rw [←hzc.out];refine wpList_store_row rfl 39 (.tmp 9) (.tmp 43) rfl v1.heap.size cs rfl rfl 39 _ (heap_alloc_new _ _) (by rw [hcn];kernel_rfl) (by rw [hcn,hzn]) hc1.out ?_)
      | (replace tok:Tok 43:=nxT 42 tok;refine wpList_load_row (by rfl) 39 (.tmp 9) rfl v1.heap.size rfl 39 cs (0,0) _ (setRow_heap _ _ _ _ _ _ (heap_alloc_new _ _)) Tryz.underlying39 rfl (by rw [hcn];kernel_rfl) ?_)
      | (replace tok:Tok 44:=nxT 43 tok;go_at_call 8;rw [hcs.out];(have hx2:=((xR v1).al (.cells zc 39)).row (g:=v1.heap.size) (nR _) (pfC x'));refine (KE.out x' d' _ (hE1.out.trans hx2) (hA1.out.ext hx2) hM1.out (hP1.out.ext hx2) hB1.out).mono ?_;rintro e v3 ⟨hq,hx3⟩;(rw [if_pos hln.out,hst.out] at hq);subst hq;(have hE3:=mK (hE1.out.trans (hx2.trans hx3)));clear hx2 hx3)
      | (replace tok:Tok 45:=nxT 44 tok;go_at_call 14;refine (hL.out _ hE3.out).mono ?_;rintro e v4 ⟨rfl,hx4⟩))
     go_ret;exact ⟨rfl,hE3.out.trans hx4⟩
    ·have hno:65536<s.size∨∀ f,tPF (Ar 32 s.data.toList)=some f→¬okPF f:=by
      by_cases hsz:s.size≤65536
      ·exact .inr fun f h1 h2=>hyes ⟨hsz,f,h1,h2⟩
      ·exact .inl (by omega)
     have KD:=mK (fun W (e:Ext w W)=>Aa4 s W (fun V k=>hm.out V (e.trans k)) hno);have KZ:=mK (fun W=>Fp zPV zPV W (Lq W));rw [←hzf.out] at KD KZ;clear hyes hno;have tok:Tok 40:=.mk _
     go_wp2_with (first
      | (replace tok:Tok 41:=nxT 40 tok;go_at_call 10;refine (KD.out _ hEa.out).mono ?_;rintro e v1 ⟨E,rfl,hE,hx1⟩;(have hE1:=mK (hEa.out.trans hx1));clear hx1)
      | (replace tok:Tok 42:=nxT 41 tok;rw [←hzc.out];refine wpList_store_row rfl 39 (.tmp 9) (.tmp 43) rfl v1.heap.size zc rfl rfl 39 _ (heap_alloc_new _ _) (by rw [hzn];kernel_rfl) rfl hz1.out ?_)
      | (replace tok:Tok 43:=nxT 42 tok;refine wpList_load_row (by rfl) 39 (.tmp 9) rfl v1.heap.size rfl 39 zc (0,0) _ (setRow_heap _ _ _ _ _ _ (heap_alloc_new _ _)) Tryz.underlying39 rfl (by rw [hzn];kernel_rfl) ?_)
      | (replace tok:Tok 44:=nxT 43 tok;go_at_call 13;rw [←hzc.out];(have hx2:=((xR v1).al (.cells zc 39)).row (g:=v1.heap.size) (nR _) zc);refine (KZ.out _).mono ?_;rintro e v3 ⟨rfl,hx3⟩;(have hE3:=mK (hE1.out.trans (hx2.trans hx3)));clear hx2 hx3)
      | (replace tok:Tok 45:=nxT 44 tok;go_at_call 14;refine (hL.out _ hE3.out).mono ?_;rintro e v4 ⟨rfl,hx4⟩))
     go_ret;exact ⟨rfl,hE3.out.trans hx4⟩
  ·have KE':=Agc x d w3 (hA.ext hEw.out) hB (by simpa using hmay)
   rw [←hCx.out] at KE';replace KE':=mK KE';clear hA hmay hB;have tok:Tok 10:=.mk _
   go_upto_region 8 with (first
    | (replace tok:Tok 11:=nxT 10 tok;refine wpList_load_row (by rfl) 39 (.tmp 2) rfl w.heap.size rfl 39 Cx (0,0) _ (zE.out _ hE3.out) Tryz.underlying39 rfl (by rw [hCn];kernel_rfl) ?_)
    | (replace tok:Tok 12:=nxT 11 tok;go_at_call 8;refine KE'.out.mono ?_;rintro e w4 ⟨rfl,hx4⟩;(have hEa:=mK (hEw.out.trans hx4));clear hx4))
   clear tok KE';by_cases hyes:s.size≤65536∧∃ f,tPF (Ar 32 s.data.toList)=some f∧okPF f
   ·obtain ⟨hsz,f,hf,hok⟩:=hyes
    have hbk:=Gw hf hok;have hst:(⟨(Aw f).toArray⟩:ByteArray)=s:=by rw [hbk]
    have hln:(Aw f).length≤65536:=by rw [hbk,Array.length_toList];exact hsz
    have KD:=mK (fun W (e:Ext w W)=>Pe s f W hsz (fun V k=>hm.out V (e.trans k)) hf hok);have KE:=mK (fun (x':PVd) (d':AD) W (e:Ext w W) (h1:AnyPf W x' d') (h2:Bw x' d'=true) (h3:PfR W x' f) hb=>Hg x' d' f W h1 hb h2 h3 hok (fun V k=>(hm.out V (e.trans k)).2.1));have hbeq:(s.toList==s.toList)=true:=by simp
    replace hst:=mK hst;replace hln:=mK hln;clear hf hbk hsz hok;have tok:Tok 40:=.mk _
    go_wp2_with (first
     | (replace tok:Tok 41:=nxT 40 tok;go_at_call 10;refine (KD.out _ hEa.out).mono ?_;rintro e v1 ⟨x',d',rfl,hA1,hM1,hP1,hB1,hx1⟩;(obtain ⟨cs,hcs⟩:=nmE (pfC x'));(have hcn:cs.size=27:=by rw [hcs];rfl);(have hc1:cs.all (·.oneCell')=true:=by rw [hcs];exact Lf hA1);(rw [←hcs]);(replace hcs:=mK hcs);(replace hc1:=mK hc1);(replace hA1:=mK hA1);(replace hM1:=mK hM1);(replace hP1:=mK hP1);(replace hB1:=mK hB1);(have hE1:=mK (hEa.out.trans hx1));clear hx1)
     | (replace tok:Tok 42:=nxT 41 tok;rw [←hzc.out];refine wpList_store_row rfl 39 (.tmp 9) (.tmp 43) rfl v1.heap.size cs rfl rfl 39 _ (heap_alloc_new _ _) (by rw [hcn];kernel_rfl) (by rw [hcn,hzn]) hc1.out ?_)
     | (replace tok:Tok 43:=nxT 42 tok;refine wpList_load_row (by rfl) 39 (.tmp 9) rfl v1.heap.size rfl 39 cs (0,0) _ (setRow_heap _ _ _ _ _ _ (heap_alloc_new _ _)) Tryz.underlying39 rfl (by rw [hcn];kernel_rfl) ?_)
     | (replace tok:Tok 44:=nxT 43 tok;go_at_call 8;rw [hcs.out];(have hx2:=((xR v1).al (.cells zc 39)).row (g:=v1.heap.size) (nR _) (pfC x'));refine (KE.out x' d' _ (hE1.out.trans hx2) (hA1.out.ext hx2) hM1.out (hP1.out.ext hx2) hB1.out).mono ?_;rintro e v3 ⟨hq,hx3⟩;(rw [if_pos hln.out,hst.out] at hq);subst hq;(have hE3:=mK (hE1.out.trans (hx2.trans hx3)));clear hx2 hx3)
     | (replace tok:Tok 45:=nxT 44 tok;go_at_call 14;refine (hL.out _ hE3.out).mono ?_;rintro e v4 ⟨rfl,hx4⟩))
    go_ret;exact ⟨rfl,hE3.out.trans hx4⟩
   ·have hno:65536<s.size∨∀ f,tPF (Ar 32 s.data.toList)=some f→¬okPF f:=by
     by_cases hsz:s.size≤65536
     ·exact .inr fun f h1 h2=>hyes ⟨hsz,f,h1,h2⟩
     ·exact .inl (by omega)
    have KD:=mK (fun W (e:Ext w W)=>Aa4 s W (fun V k=>hm.out V (e.trans k)) hno);have KZ:=mK (fun W=>Fp zPV zPV W (Lq W));rw [←hzf.out] at KD KZ;clear hyes hno;have tok:Tok 40:=.mk _
    go_wp2_with (first
     | (replace tok:Tok 41:=nxT 40 tok;go_at_call 10;refine (KD.out _ hEa.out).mono ?_;rintro e v1 ⟨E,rfl,hE,hx1⟩;(have hE1:=mK (hEa.out.trans hx1));clear hx1)
     | (replace tok:Tok 42:=nxT 41 tok;rw [←hzc.out];refine wpList_store_row rfl 39 (.tmp 9) (.tmp 43) rfl v1.heap.size zc rfl rfl 39 _ (heap_alloc_new _ _) (by rw [hzn];kernel_rfl) rfl hz1.out ?_)
     | (replace tok:Tok 43:=nxT 42 tok;refine wpList_load_row (by rfl) 39 (.tmp 9) rfl v1.heap.size rfl 39 zc (0,0) _ (setRow_heap _ _ _ _ _ _ (heap_alloc_new _ _)) Tryz.underlying39 rfl (by rw [hzn];kernel_rfl) ?_)
     | (replace tok:Tok 44:=nxT 43 tok;go_at_call 13;rw [←hzc.out];(have hx2:=((xR v1).al (.cells zc 39)).row (g:=v1.heap.size) (nR _) zc);refine (KZ.out _).mono ?_;rintro e v3 ⟨rfl,hx3⟩;(have hE3:=mK (hE1.out.trans (hx2.trans hx3)));clear hx2 hx3)
     | (replace tok:Tok 45:=nxT 44 tok;go_at_call 14;refine (hL.out _ hE3.out).mono ?_;rintro e v4 ⟨rfl,hx4⟩))
    go_ret;exact ⟨rfl,hE3.out.trans hx4⟩
def lBe:List EL:=[⟨1,1,0⟩,⟨2,1,0⟩]
def lM:Nat→Mat4:=fun k=>if k=0 then (1,0,0,1) else if k=1 then (1,1,0,1) else (1,1,-1,0)
def lQ:Rat:=4/3
theorem nf0:nf (0:Rat)≤2048:=Tx
theorem nf1:nf (1:Rat)≤2048:=Fg 1 (by decide) (by decide)
theorem nfm1:nf (-1:Rat)≤2048:=Fg (-1) (by decide) (by decide)
theorem nfQ:nf lQ≤2048:=Fg lQ (by decide +kernel) (by decide +kernel)
theorem Aey:chkE (lBe.map embE)=0:=by decide +kernel
theorem l_m0:lM 0=(1,0,0,1):=rfl
theorem l_m1:lM 1=mulM (ofE 1 1) (lM 0):=by decide +kernel
theorem l_m2:lM 2=mulM (ofE 2 1) (lM 1):=by decide +kernel
theorem l_k4 (k:Nat):k4 (lM k):=by
 unfold lM;split
 ·exact ⟨nf1,nf0,nf0,nf1⟩
 ·split
  ·exact ⟨nf1,nf1,nf0,nf1⟩
  ·exact ⟨nf1,nf1,nfm1,nf0⟩
theorem l_n4 (k:Nat):n4 (lM k):=by
 obtain ⟨h1,h2,h3,h4⟩:=l_k4 k;exact ⟨by omega,by omega,by omega,by omega⟩
theorem Ag2:n4 (ofE 1 1):=by
 rw [show ofE 1 1=lM 1 by decide +kernel];exact l_n4 1
theorem Ag1:n4 (ofE 2 1):=by
 have h1:=nf1;have h2:=nf0;have h3:=nfm1;exact ⟨by show nf (1:Rat)≤_;omega,by show nf (0:Rat)≤_;omega,by show nf (-1:Rat)≤_;omega,by show nf (1:Rat)≤_;omega⟩
theorem Aex:(lM 2).1*(lM 2).2.2.2-(lM 2).2.1*(lM 2).2.2.1=1:=by decide +kernel
theorem Abw:(Ck (lM 2)).num.sign=1:=by decide +kernel
theorem Wp:Eo (lM 2) 1 0=lQ:=by decide +kernel
theorem l_okB:okB lBe:=⟨by decide,fun e he=>by
 simp only [lBe,List.mem_cons,List.not_mem_nil,or_false] at he
 rcases he with rfl|rfl
 ·exact ⟨nf1,nf0,by decide +kernel⟩
 ·exact ⟨nf1,nf0,by decide +kernel⟩⟩
def lPf:PF:=.bound lBe 1 0 lQ
theorem Af3:okPF lPf:=⟨l_okB,nf1,nf0,nfQ⟩
def lText:ByteArray:=⟨#[115,116,97,121,115,32,49,32,48,32,52,47,51,32,115,112,97,99,101,32,49,32,108,101,110,115,32,49]⟩
theorem Af2:Aw lPf=lText.data.toList:=by decide +kernel
def lWrong:ByteArray:=⟨#[115,116,97,121,115,32,48,32,49,32,49,48,47,50]⟩
theorem Ad1:Ar 32 lWrong.data.toList=[wStays,[48],[49],[49,48,47,50]]:=by decide +kernel
theorem Ad3:Dx [48]=some 0:=by decide +kernel
theorem Ad2:Dx [49]=some 1:=by decide +kernel
theorem Wn:Dx [49,48,47,50]=none:=by decide +kernel
theorem Ad0:tPF (Ar 32 lWrong.data.toList)=none:=by
 rw [Ad1];have e2:tF [[49,48,47,50]]=none:=by simp [tF,Wn]
 have e1:tFs 3 [[48],[49],[49,48,47,50]]=none:=by
  simp only [tFs,tF,Ad3,Ad2,Wn,Option.bind_some,Option.bind_none,if_pos nf0,if_pos nf1,Option.map_none]
 simp only [tPF,if_true,e1,Option.bind_none]
theorem Abx {os:List (EL×Value)}(hos:os.map (·.1)=lBe):∀ x∈os,okE x.1:=fun x hx=>l_okB.2 _ (by rw [←hos];exact List.mem_map_of_mem hx)
theorem Aby {os:List (EL×Value)}(hos:os.map (·.1)=lBe):os.length=2:=by
 have:=congrArg List.length hos
 rwa [List.length_map] at this
theorem Abz {w:World}{s:Value}{os:List (EL×Value)}(h:Ls 9 EltR w s os)(hos:os.map (·.1)=lBe):Ls 9 EltA w s (os.map fun x=>(embE x.1,x.2)):=
 h.map embE fun x hx hr=>by
  obtain ⟨p,q,e0,h1,h2⟩:=hr
  have hk:=Abx hos x hx
  exact ⟨p,q,e0,h1.some hk.1,h2.some hk.2.1⟩
theorem Wo {os:List (EL×Value)}(hos:os.map (·.1)=lBe):(os.map fun x=>(embE x.1,x.2)).map (·.1)=lBe.map embE:=by
 rw [List.map_map,←hos,List.map_map];rfl
theorem Ad4 (s:Value)(os:List (EL×Value))(w:World)(h:Ls 9 EltR w s os)(hos:os.map (·.1)=lBe) :
  Calls Tryz.prog 65 #[s] w fun e w'=>e=.returned (.int .i64 0)∧Ext w w':=by
 have:=Ex s _ w (by rw [List.length_map,Aby hos];omega) (Abz h hos)
 rwa [Wo hos,Aey] at this
theorem Rx (s:Value)(os:List (EL×Value))(w:World)(h:Ls 9 EltR w s os)(hos:os.map (·.1)=lBe) :
  Calls Tryz.prog 105 #[s] w fun e w'=>∃ v,e=.returned (.tuple #[v,.int .i64 0])∧Ext w w'∧M4O w.heap.size w' v (lM 2):=by
 have hl:(os.map fun x=>(embE x.1,x.2)).length=2:=by rw [List.length_map,Aby hos]
 have hg:∀ k (hk:k<(os.map fun x=>(embE x.1,x.2)).length),some (os.map fun x=>(embE x.1,x.2))[k].1=(lBe.map embE)[k]?:=fun k hk=>by
  rw [←Wo hos,List.getElem?_map,List.getElem?_eq_getElem hk];rfl
 have:=Mz s _ lM w (by rw [hl];omega) (Abz h hos) (by rw [Wo hos];exact Aey) (fun k hk=>by
  have h1:=hg k hk;have h2:k=0∨k=1:=by omega
  rcases h2 with rfl|rfl
  ·rw [Option.some.inj (h1.trans (show (lBe.map embE)[0]? = some (embE ⟨1,1,0⟩) from rfl))]
   exact ⟨.inl rfl,1,rfl,nT nf1 (by decide),Ag2,l_m1⟩
  ·rw [Option.some.inj (h1.trans (show (lBe.map embE)[1]? = some (embE ⟨2,1,0⟩) from rfl))]
   exact ⟨.inr rfl,1,rfl,nT nf1 (by decide),Ag1,l_m2⟩) l_m0 (fun k _=>l_n4 k) (l_k4 _)
 rwa [hl] at this
theorem Wm (v r:Value)(w:World)(h:M4R w v (lM 2))(hr:RyR w r 1 0) :
  Calls Tryz.prog 106 #[v,r] w fun e w'=>e=.returned (.tuple #[.bool true,.int .i64 0])∧Ext w w':=
 Abc v r _ 1 0 w (l_k4 2) h hr nf1 nf0 Aex Abw
theorem Aez (v r:Value)(w:World)(h:M4R w v (lM 2))(hr:RyR w r 1 0) :
  Calls Tryz.prog 107 #[v,r] w fun e w'=>∃ v,e=.returned (.tuple #[v,.int .i64 0])∧Ext w w'∧FracO w' w.heap.size v lQ:=by
 have:=Abd v r _ 1 0 w (l_k4 2) h hr nf1 nf0 Aex Abw (by rw [Wp];exact nfQ)
 rwa [Wp] at this
theorem FracR.limbs {w:World}{v:Value}{x:Rat}(h:FracR w v x):∃ (a1 a2:Option Addr) (c1 c2:Nat),v=.agg #[.bool (decide (x.num<0)),.slice a1 (lim x.num.natAbs).length c1,.bool (decide ((x.den:Int)<0)),.slice a2 (lim (x.den:Int).natAbs).length c2]∧Row w a1 (limV (lim x.num.natAbs))∧Row w a2 (limV (lim (x.den:Int).natAbs)):=by
 obtain ⟨b1,a1,n1,c1,b2,a2,n2,c2,rfl,⟨s1,e1,x1,y1,g1,-,r1⟩,⟨s2,e2,x2,y2,g2,-,r2⟩⟩:=h;subst g1 g2;simp only [Value.agg.injEq,Array.mk.injEq,List.cons.injEq,and_true,Value.bool.injEq,Value.slice.injEq] at e1 e2;obtain ⟨rfl,rfl,rfl,rfl⟩:=e1;obtain ⟨rfl,rfl,rfl,rfl⟩:=e2;exact ⟨_,_,_,_,rfl,r1,r2⟩
theorem MagO.shape2 {w:World}{b:Nat}{s:Value}{l:List Nat}(h:MagO w b s l):∃ a n c,s=.slice a n c:=h.r.shape
theorem MagO.row {w:World}{base g:Nat}{s:Value}{l:List Nat}(h:MagO w base s l)(hg:g<base)(cs:Array Value):MagO (w.setRow g cs) base s l:=Dy h hg cs
theorem Hq (v:Value)(x:Rat)(w:World)(hx:nf x≤268435456)(h:FracR w v x) :
  Calls Tryz.prog 159 #[v] w fun e w'=>∃ v',e=.returned v'∧Ext w w'∧FracO w' w.heap.size v' x:=by
 obtain ⟨a1,a2,c1,c2,rfl,h1,h2⟩:=h.limbs;have l1:(lim x.num.natAbs).length≤4294967296:=by have:nl x.num≤268435456:=nT (Nat.le_max_left ..) hx;unfold nl at this;omega
 have l2:(lim (x.den:Int).natAbs).length≤4294967296:=by have:nl (x.den:Int)≤268435456:=nT (Nat.le_max_right ..) hx;unfold nl at this;omega
 obtain ⟨L1,hL1⟩:=nmE (lim x.num.natAbs);obtain ⟨L2,hL2⟩:=nmE (lim (x.den:Int).natAbs);obtain ⟨B1,hB1⟩:=nmE (decide (x.num<0));obtain ⟨B2,hB2⟩:=nmE (decide ((x.den:Int)<0))
 have hF:∀ W s1 s2,MagO W w.heap.size s1 L1→MagO W w.heap.size s2 L2→FracO W w.heap.size (.agg #[.bool B1,s1,.bool B2,s2]) x:=fun W s1 s2 k1 k2=>by
  rw [hL1] at k1;rw [hL2] at k2;obtain ⟨p1,q1,r1,e1⟩:=k1.shape2;obtain ⟨p2,q2,r2,e2⟩:=k2.shape2;subst e1 e2;exact ⟨B1,p1,q1,r1,B2,p2,q2,r2,rfl,⟨_,by rw [hB1],k1⟩,⟨_,by rw [hB2],k2⟩⟩
 rw [←hL1] at h1 l1;rw [←hL2] at h2 l2;rw [←hL1,←hL2,←hB1,←hB2];obtain ⟨w2,hw2⟩:=nmE ((w.alloc (.cells #[.bool B1,.slice a1 L1.length c1,.bool B2,.slice a2 L2.length c2] 28)).alloc (.cells #[.bool false,.slice none 0 0,.bool false,.slice none 0 0] 28));have hE2:=aLe2 hw2;have z0:=aL20 hw2;have z1:=aL21 hw2;have hs:=mK (aLs2 hw2);have y0:w2.cell? ⟨w.heap.size,1,none⟩=some (.slice a1 L1.length c1):=Al z0 1;rw [hw2] at y0;have K1:=mK (Jl a1 L1 c1 w2 l1 (h1.ext hE2));have K2:=mK (fun W (e:Ext w W)=>Jl a2 L2 c2 W l2 (h2.ext e));have Z0:=mK (fun W (e:Ext w2 W)=>e.blk z0);have Z1:=mK (fun W (e:Ext w2 W)=>e.blk z1);replace hF:=mK hF;replace hw2:=mK hw2;replace hE2:=mK hE2;clear h h1 h2 z0 z1 hx hL1 hL2 hB1 hB2 l1 l2;go_enter Tryz.func159,Tryz.ntmps159;have tok:Tok 0:=.mk _
 go_wp2_with (first
  | (replace tok:Tok 1:=nxT 0 tok;go_at_call 181;rw [←hw2.out];refine K1.out.mono ?_;rintro e w3 ⟨s1,rfl,hm1,hx3⟩;(obtain ⟨p1,q1,r1,rfl⟩:=hm1.shape2);(have z3:=Z0.out _ hx3);(have y1:w3.cell? ⟨w.heap.size,1,none⟩=some (.slice a1 L1.length c1):=Al z3 1);(have fz:w3.frozen? ⟨w.heap.size,1,none⟩=false:=Lib.frozen_of_heap z3 1);(have e0:∀ v,w3.setCell ⟨w.heap.size,1,none⟩ v=w3.setRow w.heap.size #[.bool B1,v,.bool B2,.slice a2 L2.length c2]:=fun v=>(setCell_eq_setRow w3 w.heap.size 1 _ _ _ v z3).trans rfl);(have z4:=setRow_heap w3 w.heap.size _ #[.bool B1,.slice p1 q1 r1,.bool B2,.slice a2 L2.length c2] _ _ z3);(have y3:(w3.setCell ⟨w.heap.size,1,none⟩ (.slice p1 q1 r1)).cell? ⟨w.heap.size,3,none⟩=some (.slice a2 L2.length c2):=by rw [e0];exact Al z4 3);(have hx4:=(hE2.out.trans hx3).row (nR _) #[.bool B1,.slice p1 q1 r1,.bool B2,.slice a2 L2.length c2]);(have hm4:=(hm1.row (by have:=hs.out;omega) #[.bool B1,.slice p1 q1 r1,.bool B2,.slice a2 L2.length c2]:MagO (w3.setRow w.heap.size #[.bool B1,.slice p1 q1 r1,.bool B2,.slice a2 L2.length c2]) _ _ _));(have hb3:=hx3.size);(have zo3:=(setRow_other w3 w.heap.size (w.heap.size+1) #[.bool B1,.slice p1 q1 r1,.bool B2,.slice a2 L2.length c2] (by omega)).trans (Z1.out _ hx3));(replace e0:=mK e0);(replace hm4:=mK hm4);(replace z4:=mK z4);(replace hx4:=mK hx4);(replace hb3:=mK hb3);(replace zo3:=mK zo3);clear z3 hm1 hx3)
  | (replace tok:Tok 2:=nxT 1 tok;go_at_call 181;rw [e0.out];refine (K2.out _ hx4.out).mono ?_;rintro e w5 ⟨s2,rfl,hm2,hx5⟩;(obtain ⟨p2,q2,r2,rfl⟩:=hm2.shape2);(have z5:=hx5.blk z4.out);(have y5:w5.cell? ⟨w.heap.size,3,none⟩=some (.slice a2 L2.length c2):=Al z5 3);(have fz5:w5.frozen? ⟨w.heap.size,3,none⟩=false:=Lib.frozen_of_heap z5 3);(have e5:∀ v,w5.setCell ⟨w.heap.size,3,none⟩ v=w5.setRow w.heap.size #[.bool B1,.slice p1 q1 r1,.bool B2,v]:=fun v=>(setCell_eq_setRow w5 w.heap.size 3 _ _ _ v z5).trans rfl);(have z6:=setRow_heap w5 w.heap.size _ #[.bool B1,.slice p1 q1 r1,.bool B2,.slice p2 q2 r2] _ _ z5);(have zo6:=(setRow_other w5 w.heap.size (w.heap.size+1) #[.bool B1,.slice p1 q1 r1,.bool B2,.slice p2 q2 r2] (by omega)).trans (hx5.blk zo3.out));(have hm6:=(hm4.out.ext hx5).row (g:=w.heap.size) (by have:=hs.out;omega) #[.bool B1,.slice p1 q1 r1,.bool B2,.slice p2 q2 r2]);(have hm7:=hm2.row (g:=w.heap.size) (by have:=hs.out;have:=hb3.out;simp;omega) #[.bool B1,.slice p1 q1 r1,.bool B2,.slice p2 q2 r2]);(have hx6:=(hx4.out.trans hx5).row (nR _) #[.bool B1,.slice p1 q1 r1,.bool B2,.slice p2 q2 r2]);(replace e5:=mK e5);(replace z6:=mK z6);(replace zo6:=mK zo6);(replace hm6:=mK hm6);(replace hm7:=mK hm7);(replace hx6:=mK hx6);clear z5 hm2 hx5)
  | (replace tok:Tok 3:=nxT 2 tok;rw [e5.out];refine wpList_load_row (by rfl) 28 (.tmp 1) rfl w.heap.size rfl 28 #[.bool B1,.slice p1 q1 r1,.bool B2,.slice p2 q2 r2] (0,0) _ z6.out Tryz.underlying28 rfl (by kernel_rfl) ?_)
  | (replace tok:Tok 4:=nxT 3 tok;refine wpList_store_row rfl 28 (.tmp 2) (.tmp 15) rfl (w.heap.size+1) #[.bool B1,.slice p1 q1 r1,.bool B2,.slice p2 q2 r2] rfl rfl 28 _ zo6.out (by kernel_rfl) rfl (by kernel_rfl) ?_))
 refine bodyPost_ret (results_cell_row rfl _ _ (w.heap.size+1) 28 #[.bool B1,.slice p1 q1 r1,.bool B2,.slice p2 q2 r2] (0,0) _ rfl (setRow_heap _ _ _ _ _ _ zo6.out) Tryz.underlying28 rfl (by kernel_rfl)) rfl ⟨_,rfl,hx6.out.row (by omega) _,hF.out _ _ _ ?_ ?_⟩
 ·exact (hm6.out.row (by have:=hs.out;omega) _).mono (by have:=hs.out;omega)
 ·exact (hm7.out.row (by have:=hs.out;have:=hb3.out;simp;omega) _).mono (by have:=hs.out;have:=hb3.out;simp;omega)
def EpO (b0:Nat)(w:World)(v:Value)(e:EL):Prop:=∃ p q:FV,v=.agg #[.int .u8 e.kd,.bool p.b1,.slice p.a1 p.n1 p.c1,.bool p.b2,.slice p.a2 p.n2 p.c2,.bool q.b1,.slice q.a1 q.n1 q.c1,.bool q.b2,.slice q.a2 q.n2 q.c2]∧FracO w b0 (.agg #[.bool p.b1,.slice p.a1 p.n1 p.c1,.bool p.b2,.slice p.a2 p.n2 p.c2]) e.p∧FracO w b0 (.agg #[.bool q.b1,.slice q.a1 q.n1 q.c1,.bool q.b2,.slice q.a2 q.n2 q.c2]) e.q
theorem EpO.ext {b0:Nat}{w w':World}{v:Value}{e:EL}(h:EpO b0 w v e)(k:Ext w w'):EpO b0 w' v e:=by
 obtain ⟨p,q,e0,h1,h2⟩:=h;exact ⟨p,q,e0,h1.ext k,h2.ext k⟩
theorem EpO.mono {b0 b1:Nat}{w:World}{v:Value}{e:EL}(h:EpO b0 w v e)(k:b1≤b0):EpO b1 w v e:=by
 obtain ⟨p,q,e0,h1,h2⟩:=h;exact ⟨p,q,e0,h1.mono k,h2.mono k⟩
theorem EpO.row {b0 g:Nat}{w:World}{v:Value}{e:EL}(h:EpO b0 w v e)(hg:g<b0)(cs:Array Value):EpO b0 (w.setRow g cs) v e:=by
 obtain ⟨p,q,e0,h1,h2⟩:=h;exact ⟨p,q,e0,h1.row hg cs,h2.row hg cs⟩
theorem EpO.r {b0:Nat}{w:World}{v:Value}{e:EL}(h:EpO b0 w v e):EltR w v e:=by
 obtain ⟨p,q,e0,h1,h2⟩:=h;exact ⟨p,q,e0,h1.r,h2.r⟩
theorem Afl {ss:List FSpec}(b0:Nat)(x:EL)(h:StableAll Ext ss):StableAll Ext (.pred (fun W v=>EpO b0 W v x)::ss):=⟨fun _ _ _ e h=>EpO.ext h e,h⟩
theorem Rh (v:Value)(x:EL)(w:World)(hp:nf x.p≤268435456)(hq:nf x.q≤268435456)(h:EltR w v x) :
  Calls Tryz.prog 158 #[v] w fun e w'=>∃ v',e=.returned v'∧Ext w w'∧EpO w.heap.size w' v' x:=by
 obtain ⟨g1,g2,rfl,k1,k2⟩:=h;obtain ⟨kd,xp,xq⟩:=x;simp only at hp hq k1 k2;obtain ⟨wb,hwb⟩:=nmE ((w.alloc (.cells #[.int .u8 kd,.bool g1.b1,.slice g1.a1 g1.n1 g1.c1,.bool g1.b2,.slice g1.a2 g1.n2 g1.c2,.bool g2.b1,.slice g2.a1 g2.n1 g2.c1,.bool g2.b2,.slice g2.a2 g2.n2 g2.c2] 72)).alloc (.cells #[.int .u8 0,.bool false,.slice none 0 0,.bool false,.slice none 0 0,.bool false,.slice none 0 0,.bool false,.slice none 0 0] 72));have hE:=aLe2 hwb;have z0:=aL20 hwb;have z2:=aL21 hwb;have hs:w.heap.size+2≤wb.heap.size:=by rw [hwb];simp
 have Z0:=mK (fun W (e:Ext wb W)=>e.blk z0);have Z2:=mK (fun W (e:Ext wb W)=>e.blk z2);have KA:=mK (fun W (e:Ext wb W)=>Hq (.agg #[.bool g1.b1,.slice g1.a1 g1.n1 g1.c1,.bool g1.b2,.slice g1.a2 g1.n2 g1.c2]) xp W hp (k1.ext (hE.trans e)));have KB:=mK (fun W (e:Ext wb W)=>Hq (.agg #[.bool g2.b1,.slice g2.a1 g2.n1 g2.c1,.bool g2.b2,.slice g2.a2 g2.n2 g2.c2]) xq W hq (k2.ext (hE.trans e)));replace hE:=mK hE;clear z0 z2 k1 k2 hp hq;go_enter Tryz.func158,Tryz.ntmps158;go_wp2_with fail;rw [←hwb];clear hwb;apply Ak [.val (.pointer (some ⟨w.heap.size,0,none⟩)),.val (.int .u8 kd),.val (.pointer (some ⟨w.heap.size,1,none⟩)),.val (.agg #[.bool g1.b1,.slice g1.a1 g1.n1 g1.c1,.bool g1.b2,.slice g1.a2 g1.n2 g1.c2]),.pred (fun W v=>FracO W (w.heap.size+2) v xp),.val (.pointer (some ⟨w.heap.size,5,none⟩)),.val (.agg #[.bool g2.b1,.slice g2.a1 g2.n1 g2.c1,.bool g2.b2,.slice g2.a2 g2.n2 g2.c2]),.pred (fun W v=>FracO W (w.heap.size+2) v xq),.pred (fun W v=>EpO (w.heap.size+2) W v ⟨kd,xp,xq⟩)] (by kernel_rfl) (stable_vals _ (stable_vals _ (stable_vals _ (stable_vals _ (At _ _ (stable_vals _ (stable_vals _ (At _ _ (Afl (ss:=[]) _ _ trivial)))))))));refine ⟨fun W hW _=>by go_simp;first|exact ⟨xR _,rfl⟩|exact xR _,?_⟩;refine ⟨?l1,?_⟩
 case l1=>
  intro W hW hF;have y:=Al (Z0.out W hW) 0;simp only [List.getElem?_toArray,List.getElem?_cons_zero] at y;clear hF;go_simp
  first
   | exact ⟨xR _,rfl⟩
   | exact xR _
 refine ⟨fun W hW _=>by go_simp;first|exact ⟨xR _,rfl⟩|exact xR _,?_⟩;refine ⟨?l3,?_⟩
 case l3=>
  intro W hW hF;have hr:=Z0.out W hW;clear hF;with_reducible refine Ah ?zhw 28 (.tmp 5) ?zho (w.heap.size) 1 ?zhx 72 _ #[.bool g1.b1,.slice g1.a1 g1.n1 g1.c1,.bool g1.b2,.slice g1.a2 g1.n2 g1.c2] (0,0) _ hr ?zhs Tryz.underlying28 ?zhd ?zhi ?zh
  case zhw=>kernel_rfl
  case zho=>rfl
  case zhx=>kernel_rfl
  case zhs=>rfl
  case zhd=>rfl
  case zhi=>kernel_rfl
  case zh=>exact ⟨xR _,rfl⟩
 refine ⟨fun W hW hF=>?g4,fun v104=>?_⟩
 case g4=>
  clear hF;go_simp;refine (KA.out W hW).mono ?_;rintro e w' ⟨v,rfl,h1,h2⟩;exact ⟨v,rfl,h1,h2.mono (nT hs hW.size)⟩
 refine ⟨fun W hW _=>by go_simp;first|exact ⟨xR _,rfl⟩|exact xR _,?_⟩;refine ⟨?l6,?_⟩
 case l6=>
  intro W hW hF;have hr:=Z0.out W hW;clear hF;with_reducible refine Ah ?zhw 28 (.tmp 8) ?zho (w.heap.size) 5 ?zhx 72 _ #[.bool g2.b1,.slice g2.a1 g2.n1 g2.c1,.bool g2.b2,.slice g2.a2 g2.n2 g2.c2] (0,0) _ hr ?zhs Tryz.underlying28 ?zhd ?zhi ?zh
  case zhw=>kernel_rfl
  case zho=>rfl
  case zhx=>kernel_rfl
  case zhs=>rfl
  case zhd=>rfl
  case zhi=>kernel_rfl
  case zh=>exact ⟨xR _,rfl⟩
 refine ⟨fun W hW hF=>?g7,fun v107=>?_⟩
 case g7=>
  clear hF;go_simp;refine (KB.out W hW).mono ?_;rintro e w' ⟨v,rfl,h1,h2⟩;exact ⟨v,rfl,h1,h2.mono (nT hs hW.size)⟩
 refine ⟨fun W hW hF=>?g8,fun v108=>fun W hW hF=>?fin⟩
 case g8=>
  have d4:FracO W (w.heap.size+2) v104 xp:=hF.2.1 (by kernel_rfl);have d7:FracO W (w.heap.size+2) v107 xq:=hF.1 (by kernel_rfl);clear hF;obtain ⟨h1,e4⟩:=Bh d4;obtain ⟨h2,e7⟩:=Bh d7;subst e4 e7;have hm:=mK (show EpO (w.heap.size+2) W (.agg #[.int .u8 kd,.bool h1.b1,.slice h1.a1 h1.n1 h1.c1,.bool h1.b2,.slice h1.a2 h1.n2 h1.c2,.bool h2.b1,.slice h2.a1 h2.n1 h2.c1,.bool h2.b2,.slice h2.a2 h2.n2 h2.c2]) ⟨kd,xp,xq⟩ from ⟨h1,h2,rfl,d4,d7⟩);clear d4 d7;go_simp
  first
   | exact ⟨xR _,hm.out⟩
   | exact ⟨_,rfl,xR _,hm.out⟩
 case fin=>
  have dm:EpO (w.heap.size+2) W v108 ⟨kd,xp,xq⟩:=hF.1 rfl;obtain ⟨h1,h2,rfl,-⟩:=id dm;have hBW:=Z2.out W hW;have FR:=(dm.row (g:=w.heap.size+1) (by omega) #[.int .u8 kd,.bool h1.b1,.slice h1.a1 h1.n1 h1.c1,.bool h1.b2,.slice h1.a2 h1.n2 h1.c2,.bool h2.b1,.slice h2.a1 h2.n1 h2.c1,.bool h2.b2,.slice h2.a2 h2.n2 h2.c2]).mono (show w.heap.size≤w.heap.size+2 by omega);have FE:=mK ((hE.out.trans hW).row (show w.heap.size≤w.heap.size+1 by omega) #[.int .u8 kd,.bool h1.b1,.slice h1.a1 h1.n1 h1.c1,.bool h1.b2,.slice h1.a2 h1.n2 h1.c2,.bool h2.b1,.slice h2.a1 h2.n1 h2.c1,.bool h2.b2,.slice h2.a2 h2.n2 h2.c2]);replace FR:=mK FR;clear hF dm hW;go_simp;go_wp2_with (refine wpList_store_row rfl 72 (.tmp 2) (.tmp 11) rfl (w.heap.size+1) #[.int .u8 kd,.bool h1.b1,.slice h1.a1 h1.n1 h1.c1,.bool h1.b2,.slice h1.a2 h1.n2 h1.c2,.bool h2.b1,.slice h2.a1 h2.n1 h2.c1,.bool h2.b2,.slice h2.a2 h2.n2 h2.c2] rfl rfl 72 _ hBW (by kernel_rfl) rfl (by kernel_rfl) ?_);exact bodyPost_ret (results_cell_row rfl _ _ (w.heap.size+1) 72 #[.int .u8 kd,.bool h1.b1,.slice h1.a1 h1.n1 h1.c1,.bool h1.b2,.slice h1.a2 h1.n2 h1.c2,.bool h2.b1,.slice h2.a1 h2.n1 h2.c1,.bool h2.b2,.slice h2.a2 h2.n2 h2.c2] (0,0) _ rfl (setRow_heap _ _ _ _ _ _ hBW) Tryz.underlying72 rfl (by kernel_rfl)) rfl ⟨_,rfl,FE.out,FR.out⟩
theorem Pf (v:Value)(y t:Rat)(w:World)(hp:nf y≤268435456)(hq:nf t≤268435456)(h:RyR w v y t) :
  Calls Tryz.prog 109 #[v] w fun e w'=>∃ v',e=.returned v'∧Ext w w'∧RyO w.heap.size w' v' y t:=by
 obtain ⟨g1,g2,rfl,k1,k2⟩:=h;obtain ⟨wb,hwb⟩:=nmE ((w.alloc (.cells #[.bool g1.b1,.slice g1.a1 g1.n1 g1.c1,.bool g1.b2,.slice g1.a2 g1.n2 g1.c2,.bool g2.b1,.slice g2.a1 g2.n1 g2.c1,.bool g2.b2,.slice g2.a2 g2.n2 g2.c2] 30)).alloc (.cells ZRC 30));have hE:=aLe2 hwb;have z0:=aL20 hwb;have z2:=aL21 hwb;have hs:w.heap.size+2≤wb.heap.size:=by rw [hwb];simp
 have Z0:=mK (fun W (e:Ext wb W)=>e.blk z0);have Z2:=mK (fun W (e:Ext wb W)=>e.blk z2);have KA:=mK (fun W (e:Ext wb W)=>Hq (.agg #[.bool g1.b1,.slice g1.a1 g1.n1 g1.c1,.bool g1.b2,.slice g1.a2 g1.n2 g1.c2]) y W hp (k1.ext (hE.trans e)));have KB:=mK (fun W (e:Ext wb W)=>Hq (.agg #[.bool g2.b1,.slice g2.a1 g2.n1 g2.c1,.bool g2.b2,.slice g2.a2 g2.n2 g2.c2]) t W hq (k2.ext (hE.trans e)));replace hE:=mK hE;clear z0 z2 k1 k2 hp hq;go_enter Tryz.func109,Tryz.ntmps109;go_wp2_with fail;rw [←hwb];clear hwb;apply Ak [.val (.pointer (some ⟨w.heap.size,0,none⟩)),.val (.agg #[.bool g1.b1,.slice g1.a1 g1.n1 g1.c1,.bool g1.b2,.slice g1.a2 g1.n2 g1.c2]),.pred (fun W v=>FracO W (w.heap.size+2) v y),.val (.pointer (some ⟨w.heap.size,4,none⟩)),.val (.agg #[.bool g2.b1,.slice g2.a1 g2.n1 g2.c1,.bool g2.b2,.slice g2.a2 g2.n2 g2.c2]),.pred (fun W v=>FracO W (w.heap.size+2) v t),.pred (fun W v=>RyO (w.heap.size+2) W v y t)] (by kernel_rfl) (stable_vals _ (stable_vals _ (At _ _ (stable_vals _ (stable_vals _ (At _ _ (Tc (ss:=[]) _ _ _ trivial)))))));refine ⟨fun W hW _=>by go_simp;first|exact ⟨xR _,rfl⟩|exact xR _,?_⟩;refine ⟨?l1,?_⟩
 case l1=>
  intro W hW hF;have hr:=Z0.out W hW;clear hF;with_reducible refine Ah ?zhw 28 (.tmp 3) ?zho (w.heap.size) 0 ?zhx 30 _ #[.bool g1.b1,.slice g1.a1 g1.n1 g1.c1,.bool g1.b2,.slice g1.a2 g1.n2 g1.c2] (0,0) _ hr ?zhs Tryz.underlying28 ?zhd ?zhi ?zh
  case zhw=>kernel_rfl
  case zho=>rfl
  case zhx=>kernel_rfl
  case zhs=>rfl
  case zhd=>rfl
  case zhi=>kernel_rfl
  case zh=>exact ⟨xR _,rfl⟩
 refine ⟨fun W hW hF=>?g2,fun v102=>?_⟩
 case g2=>
  clear hF;go_simp;refine (KA.out W hW).mono ?_;rintro e w' ⟨v,rfl,h1,h2⟩;exact ⟨v,rfl,h1,h2.mono (nT hs hW.size)⟩
 refine ⟨fun W hW _=>by go_simp;first|exact ⟨xR _,rfl⟩|exact xR _,?_⟩;refine ⟨?l4,?_⟩
 case l4=>
  intro W hW hF;have hr:=Z0.out W hW;clear hF;with_reducible refine Ah ?zhw 28 (.tmp 6) ?zho (w.heap.size) 4 ?zhx 30 _ #[.bool g2.b1,.slice g2.a1 g2.n1 g2.c1,.bool g2.b2,.slice g2.a2 g2.n2 g2.c2] (0,0) _ hr ?zhs Tryz.underlying28 ?zhd ?zhi ?zh
  case zhw=>kernel_rfl
  case zho=>rfl
  case zhx=>kernel_rfl
  case zhs=>rfl
  case zhd=>rfl
  case zhi=>kernel_rfl
  case zh=>exact ⟨xR _,rfl⟩
 refine ⟨fun W hW hF=>?g5,fun v105=>?_⟩
 case g5=>
  clear hF;go_simp;refine (KB.out W hW).mono ?_;rintro e w' ⟨v,rfl,h1,h2⟩;exact ⟨v,rfl,h1,h2.mono (nT hs hW.size)⟩
 refine ⟨fun W hW hF=>?g6,fun v106=>fun W hW hF=>?fin⟩
 case g6=>
  have d2:FracO W (w.heap.size+2) v102 y:=hF.2.1 (by kernel_rfl);have d5:FracO W (w.heap.size+2) v105 t:=hF.1 (by kernel_rfl);clear hF;obtain ⟨h1,e2⟩:=Bh d2;obtain ⟨h2,e5⟩:=Bh d5;subst e2 e5;have hm:=mK (show RyO (w.heap.size+2) W (.agg #[.bool h1.b1,.slice h1.a1 h1.n1 h1.c1,.bool h1.b2,.slice h1.a2 h1.n2 h1.c2,.bool h2.b1,.slice h2.a1 h2.n1 h2.c1,.bool h2.b2,.slice h2.a2 h2.n2 h2.c2]) y t from ⟨h1,h2,rfl,d2,d5⟩);clear d2 d5;go_simp
  first
   | exact ⟨xR _,hm.out⟩
   | exact ⟨_,rfl,xR _,hm.out⟩
 case fin=>
  have dm:RyO (w.heap.size+2) W v106 y t:=hF.1 rfl;obtain ⟨h1,h2,rfl,-⟩:=id dm;have hBW:=Z2.out W hW;have FR:=(dm.row (g:=w.heap.size+1) (by omega) #[.bool h1.b1,.slice h1.a1 h1.n1 h1.c1,.bool h1.b2,.slice h1.a2 h1.n2 h1.c2,.bool h2.b1,.slice h2.a1 h2.n1 h2.c1,.bool h2.b2,.slice h2.a2 h2.n2 h2.c2]).mono (show w.heap.size≤w.heap.size+2 by omega);have FE:=mK ((hE.out.trans hW).row (show w.heap.size≤w.heap.size+1 by omega) #[.bool h1.b1,.slice h1.a1 h1.n1 h1.c1,.bool h1.b2,.slice h1.a2 h1.n2 h1.c2,.bool h2.b1,.slice h2.a1 h2.n1 h2.c1,.bool h2.b2,.slice h2.a2 h2.n2 h2.c2]);replace FR:=mK FR;clear hF dm hW;go_simp;go_wp2_with (refine wpList_store_row rfl 30 (.tmp 2) (.tmp 9) rfl (w.heap.size+1) #[.bool h1.b1,.slice h1.a1 h1.n1 h1.c1,.bool h1.b2,.slice h1.a2 h1.n2 h1.c2,.bool h2.b1,.slice h2.a1 h2.n1 h2.c1,.bool h2.b2,.slice h2.a2 h2.n2 h2.c2] rfl rfl 30 _ hBW (by kernel_rfl) rfl (by kernel_rfl) ?_);exact bodyPost_ret (results_cell_row rfl _ _ (w.heap.size+1) 30 #[.bool h1.b1,.slice h1.a1 h1.n1 h1.c1,.bool h1.b2,.slice h1.a2 h1.n2 h1.c2,.bool h2.b1,.slice h2.a1 h2.n1 h2.c1,.bool h2.b2,.slice h2.a2 h2.n2 h2.c2] (0,0) _ rfl (setRow_heap _ _ _ _ _ _ hBW) Tryz.underlying30 rfl (by kernel_rfl)) rfl ⟨_,rfl,FE.out,FR.out⟩
theorem EpO.ty {b:Nat}{w w':World}{v:Value}{e:EL}(h:EpO b w v e)(k:Ty b 150 w w'):EpO b w' v e:=by
 obtain ⟨p,q,e0,h1,h2⟩:=h;exact ⟨p,q,e0,h1.ty k,h2.ty k⟩
def CpB (w:World)(os:List (EL×Value))(n:Nat)(t3 t8:Value)(wr:World):Prop:=
 ∃ (ns:List (EL×Value)) (k:Nat),k≤n∧t8=.int .i64 k∧ns.length=k∧ns.map (·.1)=(os.take k).map (·.1)∧Lo 9 72 (EpO w.heap.size) w.heap.size wr t3 ns∧Ext w wr
theorem Lz (s:Value)(os:List (EL×Value))(w:World)(hn:os.length≤1000000)(h:Ls 9 EltR w s os)(hnf:∀ x∈os,nf x.1.p≤268435456∧nf x.1.q≤268435456) :
  Calls Tryz.prog 108 #[s] w fun e w'=>∃ v ns,e=.returned v∧Ext w w'∧ns.map (·.1)=os.map (·.1)∧Lo 9 72 (EpO w.heap.size) w.heap.size w' v ns:=by
 obtain ⟨a,c,e1,hc⟩:=h.slice;obtain ⟨i0,hi,hz0,hz1,hz2⟩:=Kq Wr;have H:=mK (fun W (e:Ext w W)=>h.ext (fun v r (x:EltR w v r)=>by obtain ⟨p,q,e0,h1,h2⟩:=x;exact ⟨p,q,e0,h1.ext e,h2.ext e⟩) e);obtain ⟨n,hnn⟩:=nmE os.length;rw [←hnn] at e1 hn;subst e1;replace hnf:=mK hnf;replace hnn:=mK hnn;clear h hc;go_enter Tryz.func108,Tryz.ntmps108;go_wp2_with fail;have st:Hid (CpB w os n (.slice none 0 0) (.int .i64 0) w):=⟨[],0,Nat.zero_le _,rfl,rfl,by simp,Fk _ _ _ _ _,xR _⟩
 go_loopw [3,8] (fun t3 t8 wr=>CpB w os n t3 t8 wr) (fun _ i _=>n-(intOf i).toNat)
 case atStart=>exact st.out
 case round=>
  clear st;obtain ⟨ns,k,hk,rfl,hol,hmap,hO,hE⟩:=hrel;obtain ⟨w4,rfl⟩:=nmE (wr:World);by_cases hlt:k<n
  ·have hkl:k<os.length:=by rw [←hnn.out];exact hlt
   obtain ⟨b,o,c1,x1,-,hrg,p,q,e0,p1,p2⟩:=(H.out w4 hE).get (by decide) hkl;have hnk:=hnf.out os[k] (List.getElem_mem hkl);rw [←hnn.out] at x1;simp only [Value.slice.injEq,true_and] at x1;obtain ⟨rfl,rfl⟩:=x1;rw [e0] at hrg;replace hrg:w4.rangeAt b (o+k*9) [.int .u8 os[k].1.kd,.bool p.b1,.slice p.a1 p.n1 p.c1,.bool p.b2,.slice p.a2 p.n2 p.c2,.bool q.b1,.slice q.a1 q.n1 q.c1,.bool q.b2,.slice q.a2 q.n2 q.c2]:=hrg
   have htk:(os.take (k+1)).map (·.1)=(os.take k).map (·.1)++[os[k].1]:=by
    rw [List.take_succ_eq_append_getElem hkl,List.map_append];rfl
   generalize os[k].1=x at *;obtain ⟨w5,hw5⟩:=nmE (w4.alloc (.cells #[.int .u8 x.kd,.bool p.b1,.slice p.a1 p.n1 p.c1,.bool p.b2,.slice p.a2 p.n2 p.c2,.bool q.b1,.slice q.a1 q.n1 q.c1,.bool q.b2,.slice q.a2 q.n2 q.c2] 72));have hE5:=aLe1 hw5;have zV:=aL10 hw5;have KE:=mK (Rh (.agg #[.int .u8 x.kd,.bool p.b1,.slice p.a1 p.n1 p.c1,.bool p.b2,.slice p.a2 p.n2 p.c2,.bool q.b1,.slice q.a1 q.n1 q.c1,.bool q.b2,.slice q.a2 q.n2 q.c2]) x w5 hnk.1 hnk.2 ⟨p,q,rfl,p1.ext hE5,p2.ext hE5⟩);have ZV:=mK (fun W (e:Ext w5 W)=>e.blk zV);have hlt':(k:Int)<(n:Int):=by omega
   replace hO:=mK hO;replace hE:=mK hE;replace hE5:=mK hE5;replace htk:=mK htk;replace hrg:=mK hrg;replace hw5:=mK hw5;replace hol:=mK hol;replace hmap:=mK hmap;clear e0 p1 p2 zV hkl hnk;have tok:Tok 8:=.mk _
   go_wp2_with (first
    | (replace tok:Tok 9:=nxT 8 tok;refine wpList_load_mid (by rfl) 72 (.tmp 10) rfl b (o+k*9) rfl [.int .u8 x.kd,.bool p.b1,.slice p.a1 p.n1 p.c1,.bool p.b2,.slice p.a2 p.n2 p.c2,.bool q.b1,.slice q.a1 q.n1 q.c1,.bool q.b2,.slice q.a2 q.n2 q.c2] _ hrg.out Tryz.underlying72 rfl (by kernel_rfl) ?_)
    | (replace tok:Tok 10:=nxT 9 tok;rw [←hw5.out];refine wpList_load_row (by rfl) 72 (.tmp 5) rfl w4.heap.size rfl 72 #[.int .u8 x.kd,.bool p.b1,.slice p.a1 p.n1 p.c1,.bool p.b2,.slice p.a2 p.n2 p.c2,.bool q.b1,.slice q.a1 q.n1 q.c1,.bool q.b2,.slice q.a2 q.n2 q.c2] (0,0) _ (ZV.out _ (xR _)) Tryz.underlying72 rfl (by kernel_rfl) ?_)
    | (replace tok:Tok 11:=nxT 10 tok;go_at_call 158;refine KE.out.mono ?_;rintro e w6 ⟨v6,rfl,hE6,p',q',rfl,hp',hq'⟩;replace hE6:=mK hE6;(have hv6:=mK (show EpO w5.heap.size w6 (.agg #[.int .u8 x.kd,.bool p'.b1,.slice p'.a1 p'.n1 p'.c1,.bool p'.b2,.slice p'.a2 p'.n2 p'.c2,.bool q'.b1,.slice q'.a1 q'.n1 q'.c1,.bool q'.b2,.slice q'.a2 q'.n2 q'.c2]) x from ⟨p',q',rfl,hp',hq'⟩));clear hp' hq')
    | (replace tok:Tok 12:=nxT 11 tok;at_builtin;(have X:=Ca hO.out.row (hE5.out.trans hE6.out));(have Z:=X.alloc (.cells #[.int .u8 x.kd,.bool p'.b1,.slice p'.a1 p'.n1 p'.c1,.bool p'.b2,.slice p'.a2 p'.n2 p'.c2,.bool q'.b1,.slice q'.a1 q'.n1 q'.c1,.bool q'.b2,.slice q'.a2 q'.n2 q'.c2] 72));(have U:=Tryz.underlying23);refine wpList_append_own_at _ ?ya ?yb ?yc 23 ?yd w.heap.size 72 i0 (.agg #[.int .u8 0,.bool false,.slice none 0 0,.bool false,.slice none 0 0,.bool false,.slice none 0 0,.bool false,.slice none 0 0]) 9 136 U hi hz0 hz1 hz2 ?ye ?yf u3 ns.length (cv (ns.map (·.2))) ?yh Z ⟨w6.heap.size,0,none⟩ 1 1 [.int .u8 x.kd,.bool p'.b1,.slice p'.a1 p'.n1 p'.c1,.bool p'.b2,.slice p'.a2 p'.n2 p'.c2,.bool q'.b1,.slice q'.a1 q'.n1 q'.c1,.bool q'.b2,.slice q'.a2 q'.n2 q'.c2] ?yi ?yj ?zc1 ?zc2 ?zc3 ?zc4 ?zc5 ?_;(case ya=>rfl);(case yd=>rfl);(case ye=>rfl);(case yf=>decide);(case yh=>rfl);(case yi=>rfl);(case yj=>rfl);(case zc1=>exact Mc w6 _ _);(case zc2=>intro u hu;simp only [List.mem_cons,List.not_mem_nil,or_false] at hu;rcases hu with rfl|rfl|rfl|rfl|rfl|rfl|rfl|rfl|rfl<;>rfl);(case zc3=>have:=hol.out;unfold maxLen;omega);(case zc4=>have:=hol.out;omega);(case zc5=>have:=hE.out.size;have:=hE5.out.size;have:=hE6.out.size;rw [World.size_alloc];omega);intro v7 w7 hown7 hgrow7 _ _;clear X Z U;replace hown7:=mK hown7;replace hgrow7:=mK hgrow7))
   have hx:Ext w4 (w6.alloc (.cells #[.int .u8 x.kd,.bool p'.b1,.slice p'.a1 p'.n1 p'.c1,.bool p'.b2,.slice p'.a2 p'.n2 p'.c2,.bool q'.b1,.slice q'.a1 q'.n1 q'.c1,.bool q'.b2,.slice q'.a2 q'.n2 q'.c2] 72)):=(hE5.out.trans hE6.out).al _;have hob:=Nq (Ca hO.out.row hx);have hT:Ty w.heap.size 150 (w6.alloc (.cells #[.int .u8 x.kd,.bool p'.b1,.slice p'.a1 p'.n1 p'.c1,.bool p'.b2,.slice p'.a2 p'.n2 p'.c2,.bool q'.b1,.slice q'.a1 q'.n1 q'.c1,.bool q'.b2,.slice q'.a2 q'.n2 q'.c2] 72)) w7:=Ty.grown hgrow7.out (fun g hg=>(hob g hg).1) (by decide);have hE7:Ext w w7:=(hE.out.trans hx).gr hgrow7.out fun g hg=>(hob g hg).2;have hsz:w.heap.size≤w5.heap.size:=(hE.out.trans hE5.out).size;have hO7:=hO.out.snoc hown7.out (fun y _ hr=>(EpO.ext hr hx).ty hT) (((hv6.out.mono hsz).ext ((xR w6).al _)).ty hT) rfl;refine ⟨⟨_,k+1,by omega,by go_num,by simp [hol.out],by rw [List.map_append,hmap.out,htk.out];rfl,hO7,hE7⟩,by simp [intOf];omega⟩
  ·have hk2:k=n:=by omega
   subst hk2;have hmm:ns.map (·.1)=os.map (·.1):=by rw [hmap,hnn.out,List.take_length]
   replace hO:=mK hO;replace hE:=mK hE;replace hmm:=mK hmm;clear hol hmap;go_wp2_with fail;go_ret
   first
    | exact ⟨_,rfl,hE.out,ns,hmm.out,hO.out⟩
    | exact ⟨_,ns,rfl,hE.out,hmm.out,hO.out⟩
end Go.Proofs.YtlknpnommcohkaaGreatDoor
