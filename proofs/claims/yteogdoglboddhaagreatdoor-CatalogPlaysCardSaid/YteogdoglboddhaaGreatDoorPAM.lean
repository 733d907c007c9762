/-
  slices.MinFunc at parts, by Near's comparison. The catalogue's Near. The catalogue's Text. The reference's Get. The reference's off: printed by tools/gen_roff.py. The reference's Near: a power that is none; the word of a kind. Plain law of the reference's Digits: nine digits of each part, the low ones first, then zeros.
-/
import Derived.Test.YteogdoglboddhaaGreatDoorPAL
import Derived.Laws.EntriesVeiled
import Derived.Test.YteogdoglboddhaaGreatDoorPAK
import Derived.Test.YteogdoglboddhaaGreatDoorPAJ
set_option maxHeartbeats 6400000
namespace Go.Proofs.YteogdoglboddhaaGreatDoor
set_option maxRecDepth 100000
open Go Go.RowKit Go.Proofs
def minX (x:Rat)(m:PD×Value)(l:List (PD×Value)):PD×Value:=l.foldl (fun m d=>if cmp3 x d.1 m.1<0 then d else m) m
theorem Wq (x:Rat):∀ (l:List (PD×Value)) (m:PD×Value),(minX x m l).1=minF x m.1 (l.map (·.1))
 | [],_=>rfl
 | d::r,m=>by
  show (minX x (if cmp3 x d.1 m.1<0 then d else m) r).1=minF x (if cmp3 x d.1 m.1<0 then d.1 else m.1) (r.map (·.1))
  rw [Wq x r]
  split<;>rfl
theorem Py (x:Rat):∀ (l:List (PD×Value)) (m:PD×Value),minX x m l=m∨minX x m l∈l
 | [],_=>.inl rfl
 | d::r,m=>by
  have h:=Py x r (if cmp3 x d.1 m.1<0 then d else m)
  show minX x (if cmp3 x d.1 m.1<0 then d else m) r=m∨minX x (if cmp3 x d.1 m.1<0 then d else m) r∈d::r
  rcases h with h|h
  ·rw [h]
   split
   ·exact .inr (List.mem_cons_self ..)
   ·exact .inl rfl
  ·exact .inr (List.mem_cons_of_mem _ h)
def MinR (w:World)(x:Rat)(m0:PD×Value)(r:List (PD×Value))(t6:Value)(wr:World):Prop:=
 ∃ (j k:Nat) (d:PD) (p q:FV),j=k+1∧k≤r.length∧t6=.int .i64 j∧minX x m0 (r.take k)=(d,.agg #[.string d.nm,.int .u8 d.kd,.bool p.b1,.slice p.a1 p.n1 p.c1,.bool p.b2,.slice p.a2 p.n2 p.c2,.bool q.b1,.slice q.a1 q.n1 q.c1,.bool q.b2,.slice q.a2 q.n2 q.c2,.int .i64 d.co])∧Ext w wr ∧
  wr.heap[w.heap.size]? = some (.cells #[.string ⟨#[]⟩,.int .u8 0,.bool false,.slice none 0 0,.bool false,.slice none 0 0,.bool false,.slice none 0 0,.bool false,.slice none 0 0,.int .i64 0] 58 (0,0))∧wr.heap[w.heap.size+1]? = some (.cells #[.string d.nm,.int .u8 d.kd,.bool p.b1,.slice p.a1 p.n1 p.c1,.bool p.b2,.slice p.a2 p.n2 p.c2,.bool q.b1,.slice q.a1 q.n1 q.c1,.bool q.b2,.slice q.a2 q.n2 q.c2,.int .i64 d.co] 58 (0,0))
def MinQ (w:World)(m:PD×Value)(e:Ending)(w':World):Prop:=e=.returned m.2∧Ext w w'
theorem Ajr (m0:PD×Value)(r:List (PD×Value))(rest:List Value)(g c:Nat)(x:Rat)(pw:FV)(gp go:Nat)(w:World)(hv:AllV (m0::r))(hl:(m0::r).length≤64)
  (hr:w.heap[g]? = some (.cells (Af (m0::r)++rest).toArray 58 (0,0))) (hpr:∀ y∈m0::r,PartR w y.2 y.1) (hnf:∀ y∈m0::r,nf y.1.p≤2048) (hx:nf x≤2048) (h3:FracR w (.agg #[.bool pw.b1,.slice pw.a1 pw.n1 pw.c1,.bool pw.b2,.slice pw.a2 pw.n2 pw.c2]) x)
  (zp:w.heap[gp]? = some (.cells #[.bool pw.b1,.slice pw.a1 pw.n1 pw.c1,.bool pw.b2,.slice pw.a2 pw.n2 pw.c2] 54 (0,0))) (zo:w.heap[go]? = some (.cells #[.func (.func 96) #[] #[.pointer (some ⟨gp,0,none⟩)]] 105 (0,0))) :
  Calls Tryz.prog 100 #[.slice (some ⟨g,0,none⟩) (m0::r).length c,.func (.func 101) #[] #[.pointer (some ⟨go,0,none⟩)]] w (MinQ w (minX x m0 r)):=by
 obtain ⟨d0,v0⟩:=m0;obtain ⟨p0,q0,e0⟩:=hv (d0,v0) (List.mem_cons_self ..);have e0':v0=.agg #[.string d0.nm,.int .u8 d0.kd,.bool p0.b1,.slice p0.a1 p0.n1 p0.c1,.bool p0.b2,.slice p0.a2 p0.n2 p0.c2,.bool q0.b1,.slice q0.a1 q0.n1 q0.c1,.bool q0.b2,.slice q0.a2 q0.n2 q0.c2,.int .i64 d0.co]:=e0;subst e0';generalize hos:(d0,Value.agg #[.string d0.nm,.int .u8 d0.kd,.bool p0.b1,.slice p0.a1 p0.n1 p0.c1,.bool p0.b2,.slice p0.a2 p0.n2 p0.c2,.bool q0.b1,.slice q0.a1 q0.n1 q0.c1,.bool q0.b2,.slice q0.a2 q0.n2 q0.c2,.int .i64 d0.co])::r=os at *;have hln:os.length=r.length+1:=by rw [←hos];rfl
 have h0:os[0]? = some (d0,Value.agg #[.string d0.nm,.int .u8 d0.kd,.bool p0.b1,.slice p0.a1 p0.n1 p0.c1,.bool p0.b2,.slice p0.a2 p0.n2 p0.c2,.bool q0.b1,.slice q0.a1 q0.n1 q0.c1,.bool q0.b2,.slice q0.a2 q0.n2 q0.c2,.int .i64 d0.co]):=by rw [←hos];rfl
 have hlt0:0<os.length:=by omega
 have hx0:=mK (Cr hv hlt0 rest (sub:=#[.string d0.nm,.int .u8 d0.kd,.bool p0.b1,.slice p0.a1 p0.n1 p0.c1,.bool p0.b2,.slice p0.a2 p0.n2 p0.c2,.bool q0.b1,.slice q0.a1 q0.n1 q0.c1,.bool q0.b2,.slice q0.a2 q0.n2 q0.c2,.int .i64 d0.co]) (by have:=List.getElem?_eq_some_iff.1 h0;rw [this.2]));have hos':=mK hos;obtain ⟨w1,hw1⟩:=nmE (w.alloc (.cells #[.string ⟨#[]⟩,.int .u8 0,.bool false,.slice none 0 0,.bool false,.slice none 0 0,.bool false,.slice none 0 0,.bool false,.slice none 0 0,.int .i64 0] 58));have hE1:=aLe1 hw1;have zR:=mK (aL10 hw1);have hsz:=aLs1 hw1;have hr1:=mK (hE1.blk hr);obtain ⟨w2,hw2⟩:=nmE ((w1.alloc (.cells #[.string ⟨#[]⟩,.int .u8 0,.bool false,.slice none 0 0,.bool false,.slice none 0 0,.bool false,.slice none 0 0,.bool false,.slice none 0 0,.int .i64 0] 58)).setRow w1.heap.size #[.string d0.nm,.int .u8 d0.kd,.bool p0.b1,.slice p0.a1 p0.n1 p0.c1,.bool p0.b2,.slice p0.a2 p0.n2 p0.c2,.bool q0.b1,.slice q0.a1 q0.n1 q0.c1,.bool q0.b2,.slice q0.a2 q0.n2 q0.c2,.int .i64 d0.co]);have hE2:Ext w1 w2:=by rw [hw2];exact ((xR w1).al _).row (nR _) _
 have zM:=mK (show w2.heap[w.heap.size+1]? = some (.cells #[.string d0.nm,.int .u8 d0.kd,.bool p0.b1,.slice p0.a1 p0.n1 p0.c1,.bool p0.b2,.slice p0.a2 p0.n2 p0.c2,.bool q0.b1,.slice q0.a1 q0.n1 q0.c1,.bool q0.b2,.slice q0.a2 q0.n2 q0.c2,.int .i64 d0.co] 58 (0,0)) by rw [hw2,←hsz];exact setRow_heap _ _ _ _ _ _ (heap_alloc_new _ _));have st:MinR w x (d0,.agg #[.string d0.nm,.int .u8 d0.kd,.bool p0.b1,.slice p0.a1 p0.n1 p0.c1,.bool p0.b2,.slice p0.a2 p0.n2 p0.c2,.bool q0.b1,.slice q0.a1 q0.n1 q0.c1,.bool q0.b2,.slice q0.a2 q0.n2 q0.c2,.int .i64 d0.co]) r (.int .i64 1) w2:=⟨1,0,d0,p0,q0,rfl,Nat.zero_le _,rfl,rfl,hE1.trans hE2,hE2.blk zR.out,zM.out⟩
 have NC:=mK (fun (y z:PD×Value) (py qy pz qz:FV) (W:World) (hy:y∈os) (hz:z∈os) (ey:y.2=.agg #[.string y.1.nm,.int .u8 y.1.kd,.bool py.b1,.slice py.a1 py.n1 py.c1,.bool py.b2,.slice py.a2 py.n2 py.c2,.bool qy.b1,.slice qy.a1 qy.n1 qy.c1,.bool qy.b2,.slice qy.a2 qy.n2 qy.c2,.int .i64 y.1.co]) (ez:z.2=.agg #[.string z.1.nm,.int .u8 z.1.kd,.bool pz.b1,.slice pz.a1 pz.n1 pz.c1,.bool pz.b2,.slice pz.a2 pz.n2 pz.c2,.bool qz.b1,.slice qz.a1 qz.n1 qz.c1,.bool qz.b2,.slice qz.a2 qz.n2 qz.c2,.int .i64 z.1.co]) (e:Ext w W)=>
  Ahx y.1 z.1 py qy pz qz pw x gp go W (hnf y hy) (hnf z hz) hx (by have:=(hpr y hy).ext e;rw [ey] at this;obtain ⟨_,_,_,_,_,_,_,_,_,_,_,_,_,_,_,_,e2,k,_⟩:=this;simp only [Value.agg.injEq,Array.mk.injEq,List.cons.injEq,and_true,Value.bool.injEq,Value.slice.injEq,true_and] at e2;obtain ⟨rfl,⟨rfl,rfl,rfl⟩,rfl,⟨rfl,rfl,rfl⟩,-⟩:=e2;exact k) (by have:=(hpr z hz).ext e;rw [ez] at this;obtain ⟨_,_,_,_,_,_,_,_,_,_,_,_,_,_,_,_,e2,k,_⟩:=this;simp only [Value.agg.injEq,Array.mk.injEq,List.cons.injEq,and_true,Value.bool.injEq,Value.slice.injEq,true_and] at e2;obtain ⟨rfl,⟨rfl,rfl,rfl⟩,rfl,⟨rfl,rfl,rfl⟩,-⟩:=e2;exact k) (h3.ext e) (e.blk zp) (e.blk zo))
 have hll:(1:Int)≤(os.length:Int):=by omega
 have hll2:(os.length:Int)≤64:=by omega
 have hll3:(0:Int)<(os.length:Int):=by omega
 replace st:=mK st;replace hv:=mK hv;replace hr:=mK hr;replace hw1:=mK hw1;replace hw2:=mK hw2;replace hE1:=mK hE1;replace hE2:=mK hE2;replace hln:=mK hln;replace h0:=mK h0;replace hsz:=mK hsz;clear hpr hnf hx h3 zp zo e0 hos zM;unfold MinQ;go_enter Tryz.func100,Tryz.ntmps100;have tok:Tok 0:=.mk _
 go_wp2_with (first
  | (replace tok:Tok 1:=nxT 0 tok;rw [←hw1.out];refine Ab (by rfl) 58 (.tmp 12) rfl g (0*11) ?zz 58 _ #[.string d0.nm,.int .u8 d0.kd,.bool p0.b1,.slice p0.a1 p0.n1 p0.c1,.bool p0.b2,.slice p0.a2 p0.n2 p0.c2,.bool q0.b1,.slice q0.a1 q0.n1 q0.c1,.bool q0.b2,.slice q0.a2 q0.n2 q0.c2,.int .i64 d0.co] (0,0) _ hr1.out hx0.out Tryz.underlying58 rfl (by kernel_rfl) ?_;(case zz=>rfl))
  | (replace tok:Tok 2:=nxT 1 tok;refine wpList_store_row rfl 58 (.tmp 5) (.tmp 13) rfl w1.heap.size #[.string d0.nm,.int .u8 d0.kd,.bool p0.b1,.slice p0.a1 p0.n1 p0.c1,.bool p0.b2,.slice p0.a2 p0.n2 p0.c2,.bool q0.b1,.slice q0.a1 q0.n1 q0.c1,.bool q0.b2,.slice q0.a2 q0.n2 q0.c2,.int .i64 d0.co] rfl rfl 58 _ (heap_alloc_new _ _) (by kernel_rfl) rfl (by kernel_rfl) ?_;rw [←hw2.out,hsz.out]))
 clear tok hll hll3;go_loopw [6] (fun t6 wr=>MinR w x (d0,.agg #[.string d0.nm,.int .u8 d0.kd,.bool p0.b1,.slice p0.a1 p0.n1 p0.c1,.bool p0.b2,.slice p0.a2 p0.n2 p0.c2,.bool q0.b1,.slice q0.a1 q0.n1 q0.c1,.bool q0.b2,.slice q0.a2 q0.n2 q0.c2,.int .i64 d0.co]) r t6 wr) (fun t6 _=>os.length-(intOf t6).toNat)
 case atStart=>exact st.out
 case round=>
  clear st;obtain ⟨j,k,d,p,q,hjk,hk,rfl,hmin,hEw,hz,hm⟩:=hrel;obtain ⟨w3,rfl⟩:=nmE (wr:World);have hln2:=hln.out
  have hmm:(d,Value.agg #[.string d.nm,.int .u8 d.kd,.bool p.b1,.slice p.a1 p.n1 p.c1,.bool p.b2,.slice p.a2 p.n2 p.c2,.bool q.b1,.slice q.a1 q.n1 q.c1,.bool q.b2,.slice q.a2 q.n2 q.c2,.int .i64 d.co])∈os:=by
   rw [←hmin,←hos'.out];rcases Py x (r.take k) (d0,.agg #[.string d0.nm,.int .u8 d0.kd,.bool p0.b1,.slice p0.a1 p0.n1 p0.c1,.bool p0.b2,.slice p0.a2 p0.n2 p0.c2,.bool q0.b1,.slice q0.a1 q0.n1 q0.c1,.bool q0.b2,.slice q0.a2 q0.n2 q0.c2,.int .i64 d0.co]) with h|h
   ·rw [h];exact List.mem_cons_self ..
   ·exact List.mem_cons_of_mem _ (List.mem_of_mem_take h)
  by_cases hlt:j<os.length
  ·obtain ⟨d2,v2,hdv⟩:∃ d2 v2,os[j]=(d2,v2):=⟨_,_,rfl⟩
   have hmj:(d2,v2)∈os:=by rw [←hdv];exact List.getElem_mem hlt
   obtain ⟨p2,q2,e0⟩:=hv.out _ hmj;have e0':v2=.agg #[.string d2.nm,.int .u8 d2.kd,.bool p2.b1,.slice p2.a1 p2.n1 p2.c1,.bool p2.b2,.slice p2.a2 p2.n2 p2.c2,.bool q2.b1,.slice q2.a1 q2.n1 q2.c1,.bool q2.b2,.slice q2.a2 q2.n2 q2.c2,.int .i64 d2.co]:=e0;subst e0'
   have hrk:r[k]? = some (d2,.agg #[.string d2.nm,.int .u8 d2.kd,.bool p2.b1,.slice p2.a1 p2.n1 p2.c1,.bool p2.b2,.slice p2.a2 p2.n2 p2.c2,.bool q2.b1,.slice q2.a1 q2.n1 q2.c1,.bool q2.b2,.slice q2.a2 q2.n2 q2.c2,.int .i64 d2.co]):=by
    have:os[j]? = some (d2,.agg #[.string d2.nm,.int .u8 d2.kd,.bool p2.b1,.slice p2.a1 p2.n1 p2.c1,.bool p2.b2,.slice p2.a2 p2.n2 p2.c2,.bool q2.b1,.slice q2.a1 q2.n1 q2.c1,.bool q2.b2,.slice q2.a2 q2.n2 q2.c2,.int .i64 d2.co]):=by rw [List.getElem?_eq_getElem hlt,hdv]
    rw [←hos'.out,hjk,List.getElem?_cons_succ] at this;exact this
   have hxk:=mK (Cr hv.out hlt rest (sub:=#[.string d2.nm,.int .u8 d2.kd,.bool p2.b1,.slice p2.a1 p2.n1 p2.c1,.bool p2.b2,.slice p2.a2 p2.n2 p2.c2,.bool q2.b1,.slice q2.a1 q2.n1 q2.c1,.bool q2.b2,.slice q2.a2 q2.n2 q2.c2,.int .i64 d2.co]) (by rw [hdv]));have hr3:=mK (hEw.blk hr.out);have hN:=fun W (e:Ext w3 W)=>NC.out (d2,_) (d,_) p2 q2 p q W hmj hmm rfl rfl (hEw.trans e);have hjl:(j:Int)<(os.length:Int):=by omega
   have hj64:(j:Int)≤64:=by omega
   generalize hC:cmp3 x d2 d=C at hN;replace hN:Hid _:=mK hN
   have hmin2:minX x (d0,.agg #[.string d0.nm,.int .u8 d0.kd,.bool p0.b1,.slice p0.a1 p0.n1 p0.c1,.bool p0.b2,.slice p0.a2 p0.n2 p0.c2,.bool q0.b1,.slice q0.a1 q0.n1 q0.c1,.bool q0.b2,.slice q0.a2 q0.n2 q0.c2,.int .i64 d0.co]) (r.take (k+1))=if C<0 then (d2,.agg #[.string d2.nm,.int .u8 d2.kd,.bool p2.b1,.slice p2.a1 p2.n1 p2.c1,.bool p2.b2,.slice p2.a2 p2.n2 p2.c2,.bool q2.b1,.slice q2.a1 q2.n1 q2.c1,.bool q2.b2,.slice q2.a2 q2.n2 q2.c2,.int .i64 d2.co]) else (d,.agg #[.string d.nm,.int .u8 d.kd,.bool p.b1,.slice p.a1 p.n1 p.c1,.bool p.b2,.slice p.a2 p.n2 p.c2,.bool q.b1,.slice q.a1 q.n1 q.c1,.bool q.b2,.slice q.a2 q.n2 q.c2,.int .i64 d.co]):=by
    have hkl:=(List.getElem?_eq_some_iff.1 hrk).1;rw [List.take_succ_eq_append_getElem hkl,(List.getElem?_eq_some_iff.1 hrk).2];show List.foldl _ _ _=_
    rw [List.foldl_append];show (if cmp3 x d2 (minX x _ (r.take k)).1<0 then _ else minX x _ (r.take k))=_
    rw [hmin];show (if cmp3 x d2 d<0 then _ else _)=_
    rw [hC]
   have hkr:k+1≤r.length:=by omega
   have hgl:=mK (Array.getElem?_eq_some_iff.1 hm).1;replace hjk:=mK hjk;replace hmin:=mK hmin;replace hmin2:=mK hmin2;replace hEw:=mK hEw;replace hz:=mK hz;replace hm:=mK hm;replace hdv:=mK hdv;replace hC:=mK hC;clear e0 hrk hmm hmj hln2;go_wp2_with fail;apply Ad [.val (.func (.func 101) #[] #[.pointer (some ⟨go,0,none⟩)]),.val (.slice (some ⟨g,0,none⟩) os.length c),.val (.int .i64 j),.val (.pointer (some ⟨g,j*11,none⟩)),.val (.agg #[.string d2.nm,.int .u8 d2.kd,.bool p2.b1,.slice p2.a1 p2.n1 p2.c1,.bool p2.b2,.slice p2.a2 p2.n2 p2.c2,.bool q2.b1,.slice q2.a1 q2.n1 q2.c1,.bool q2.b2,.slice q2.a2 q2.n2 q2.c2,.int .i64 d2.co]),.val (.agg #[.string d.nm,.int .u8 d.kd,.bool p.b1,.slice p.a1 p.n1 p.c1,.bool p.b2,.slice p.a2 p.n2 p.c2,.bool q.b1,.slice q.a1 q.n1 q.c1,.bool q.b2,.slice q.a2 q.n2 q.c2,.int .i64 d.co]),.val (.int .i64 C),.val (.bool (decide (C<0)))] (by kernel_rfl) (stable_vals _ (stable_vals _ (stable_vals _ (stable_vals _ (stable_vals _ (stable_vals _ (stable_vals _ (stable_vals _ trivial))))))));iterate 4 (refine ⟨fun W hW _=>by go_simp;first|exact ⟨xR _,rfl⟩|exact xR _,?_⟩)
   refine ⟨?l1,?_⟩
   case l1=>
    intro W hW hF;have hrw:=hW.blk hr3.out;with_reducible refine Ct ?zhw 58 (.tmp 23) ?zho g (j*11) ?zhx 58 _ #[.string d2.nm,.int .u8 d2.kd,.bool p2.b1,.slice p2.a1 p2.n1 p2.c1,.bool p2.b2,.slice p2.a2 p2.n2 p2.c2,.bool q2.b1,.slice q2.a1 q2.n1 q2.c1,.bool q2.b2,.slice q2.a2 q2.n2 q2.c2,.int .i64 d2.co] (0,0) _ hrw hxk.out Tryz.underlying58 ?zhd ?zhi ?zh
    case zhw=>kernel_rfl
    case zho=>rfl
    case zhx=>rfl
    case zhd=>rfl
    case zhi=>kernel_rfl
    case zh=>exact ⟨xR _,rfl⟩
   refine ⟨?l2,?_⟩
   case l2=>
    intro W hW hF;have hrw:=hW.blk hm.out;with_reducible refine De ?zhw 58 (.tmp 5) ?zho (w.heap.size+1) ?zhx 58 _ (0,0) _ hrw Tryz.underlying58 ?zhd ?zhi ?zh
    case zhw=>kernel_rfl
    case zho=>rfl
    case zhx=>rfl
    case zhd=>rfl
    case zhi=>kernel_rfl
    case zh=>exact ⟨xR _,rfl⟩
   refine ⟨fun W hW hF=>?cm,?_⟩
   case cm=>
    clear hF;go_simp;refine (hN.out W hW).mono ?_;rintro e w' ⟨rfl,h1⟩;exact ⟨rfl,h1⟩
   refine ⟨fun W hW _=>by go_simp;first|exact ⟨xR _,rfl⟩|exact xR _,fun W hW hF=>?fin⟩
   case fin=>
    clear hF;have hEW:=mK (hEw.out.trans hW);have hzW:=mK (hW.blk hz.out);have hmW:=mK (hW.blk hm.out);have hrW:=mK (hW.blk hr3.out);clear hW;by_cases hc:C<0
    ·rw [decide_eq_true hc]
     have hm3:=hmin2.out;rw [if_pos hc] at hm3;replace hm3:=mK hm3;clear hc;go_simp;have tok:Tok 0:=.mk _
     go_wp2_with (first
      | (replace tok:Tok 1:=nxT 0 tok;refine Ab (by rfl) 58 (.tmp 30) rfl g (j*11) ?zz 58 _ #[.string d2.nm,.int .u8 d2.kd,.bool p2.b1,.slice p2.a1 p2.n1 p2.c1,.bool p2.b2,.slice p2.a2 p2.n2 p2.c2,.bool q2.b1,.slice q2.a1 q2.n1 q2.c1,.bool q2.b2,.slice q2.a2 q2.n2 q2.c2,.int .i64 d2.co] (0,0) _ hrW.out hxk.out Tryz.underlying58 rfl (by kernel_rfl) ?_;(case zz=>rfl))
      | (replace tok:Tok 2:=nxT 1 tok;refine wpList_store_row rfl 58 (.tmp 5) (.tmp 31) rfl (w.heap.size+1) #[.string d2.nm,.int .u8 d2.kd,.bool p2.b1,.slice p2.a1 p2.n1 p2.c1,.bool p2.b2,.slice p2.a2 p2.n2 p2.c2,.bool q2.b1,.slice q2.a1 q2.n1 q2.c1,.bool q2.b2,.slice q2.a2 q2.n2 q2.c2,.int .i64 d2.co] rfl rfl 58 _ hmW.out (by kernel_rfl) rfl (by kernel_rfl) ?_))
     go_roundw
     case measure=>simp [intOf];omega
     case rel=>
      exact ⟨j+1,k+1,d2,p2,q2,by rw [hjk.out],hkr,by go_num,hm3.out,hEW.out.row (by omega) _,(setRow_other _ _ _ _ (by omega)).trans hzW.out,setRow_heap _ _ _ _ _ _ hmW.out⟩
    ·rw [decide_eq_false hc]
     have hm3:=hmin2.out;rw [if_neg hc] at hm3;replace hm3:=mK hm3;clear hc;go_simp;go_wp2_with fail;go_roundw
     case measure=>simp [intOf];omega
     case rel=>
      exact ⟨j+1,k+1,d,p,q,by rw [hjk.out],hkr,by go_num,hm3.out,hEW.out,hzW.out,hmW.out⟩
  ·have hjn:j=os.length:=by omega
   have hkn:k=r.length:=by omega
   rw [hkn,List.take_length] at hmin;subst hjn;replace hmin:=mK hmin;have hE4:=mK (hEw.row (show w.heap.size≤w.heap.size from nR _) #[.string d.nm,.int .u8 d.kd,.bool p.b1,.slice p.a1 p.n1 p.c1,.bool p.b2,.slice p.a2 p.n2 p.c2,.bool q.b1,.slice q.a1 q.n1 q.c1,.bool q.b2,.slice q.a2 q.n2 q.c2,.int .i64 d.co]);replace hz:=mK hz;replace hm:=mK hm;replace hEw:=mK hEw;clear hjk hkn hk hln2 hmm;have tok:Tok 0:=.mk _
   go_wp2_with (first
    | (replace tok:Tok 1:=nxT 0 tok;refine wpList_load_row (by rfl) 58 (.tmp 5) rfl (w.heap.size+1) rfl 58 #[.string d.nm,.int .u8 d.kd,.bool p.b1,.slice p.a1 p.n1 p.c1,.bool p.b2,.slice p.a2 p.n2 p.c2,.bool q.b1,.slice q.a1 q.n1 q.c1,.bool q.b2,.slice q.a2 q.n2 q.c2,.int .i64 d.co] (0,0) _ hm.out Tryz.underlying58 rfl (by kernel_rfl) ?_)
    | (replace tok:Tok 2:=nxT 1 tok;refine wpList_store_row rfl 58 (.tmp 4) (.tmp 32) rfl w.heap.size #[.string d.nm,.int .u8 d.kd,.bool p.b1,.slice p.a1 p.n1 p.c1,.bool p.b2,.slice p.a2 p.n2 p.c2,.bool q.b1,.slice q.a1 q.n1 q.c1,.bool q.b2,.slice q.a2 q.n2 q.c2,.int .i64 d.co] rfl rfl 58 _ hz.out (by kernel_rfl) rfl (by kernel_rfl) ?_))
   rw [hmin.out];exact bodyPost_ret (results_cell_row rfl _ _ w.heap.size 58 #[.string d.nm,.int .u8 d.kd,.bool p.b1,.slice p.a1 p.n1 p.c1,.bool p.b2,.slice p.a2 p.n2 p.c2,.bool q.b1,.slice q.a1 q.n1 q.c1,.bool q.b2,.slice q.a2 q.n2 q.c2,.int .i64 d.co] (0,0) _ rfl (setRow_heap _ _ _ _ _ _ hz.out) Tryz.underlying58 rfl (by kernel_rfl)) rfl ⟨rfl,hE4.out⟩
theorem OutP.slice {lo:Nat}{w:World}{s:Value}{os:List (PD×Value)}(h:OutP lo w s os):∃ a c,s=.slice a os.length c∧(os≠[]→∃ g,a=some ⟨g,0,none⟩):=by
 rcases h.row.2 with ⟨e,h0⟩|⟨g,cap,cur,e,-⟩
 ·have h0':os=[]:=List.eq_nil_of_length_eq_zero (by simpa using h0)
  subst h0';exact ⟨none,0,e,fun h=>absurd rfl h⟩
 ·exact ⟨_,cap,e,fun _=>⟨g,rfl⟩⟩
theorem Xr (lo:Nat)(w:World)(s:Value)(os:List (PD×Value))(h:OutP lo w s os)(hl:os.length≤64) :
  Calls Tryz.prog 98 #[s,.func (.func 99) #[] #[]] w (DelQ lo w s os):=by
 cases hf:Dj os with
 | none=>exact Xq lo w s os h hl hf
 | some i=>
  obtain ⟨hi,-⟩:=Qs hf;obtain ⟨a,c,rfl,ha⟩:=h.slice;obtain ⟨g,rfl⟩:=ha (by intro e;rw [e] at hi;simp at hi);exact Xp lo w g _ c os h hl i hf
def Ajx (w:World)(x:Rat)(es:List (PD×Value))(e:Ending)(w':World):Prop:=∃ v d,e=.returned (.tuple #[v,.int .i64 0])∧Bn x none (es.map (·.1))=some d∧PartK w.heap.size w' v d∧Ext w w'
theorem Kf (os:List (PD×Value)):(os.filter lensX).map (·.1)=(os.map (·.1)).filter lensB:=by
 rw [List.filter_map];rfl
theorem Rising.bef {es:List (PD×Value)}(hr:Rising es):(es.map (·.1)).Pairwise (fun a b=>bef a b=true):=by
 rw [List.pairwise_map];exact hr
theorem Afe {es os:List (PD×Value)}(hr:Rising es)(he:os.map (·.1)=es.map (·.1))(x:Rat){m0:PD×Value}{r:List (PD×Value)}(h:os.filter lensX=m0::r):Bn x none (es.map (·.1))=some (minX x m0 r).1:=by
 rw [Mj x (es.map (·.1)) hr.bef,←he,←Kf,h];show some (minF x m0.1 (r.map (·.1)))=_
 rw [Wq]
theorem Ahu {es os:List (PD×Value)}(he:os.map (·.1)=es.map (·.1))(hok:∀ y∈es,okPD y.1){m0:PD×Value}{r:List (PD×Value)}(h:os.filter lensX=m0::r):∀ y∈m0::r,nf y.1.p≤2048:=by
 intro y hy;rw [←h] at hy;have h1:y.1∈os.map (·.1):=List.mem_map.2 ⟨y,(List.mem_filter.1 hy).1,rfl⟩;rw [he] at h1;obtain ⟨z,hz,e⟩:=List.mem_map.1 h1;rw [←e];exact (hok z hz).1
theorem Ah0 (x:Rat)(m:PD×Value)(r:List (PD×Value)):minX x m r∈m::r:=by
 rcases Py x r m with h|h
 ·rw [h];exact List.mem_cons_self ..
 ·exact List.mem_cons_of_mem _ h
theorem Aff (pw:FV)(w:World)(g M:Nat)(es:List (PD×Value))(h:Cat w g M es)(hp:AnyF w (.agg #[.bool pw.b1,.slice pw.a1 pw.n1 pw.c1,.bool pw.b2,.slice pw.a2 pw.n2 pw.c2]) none) :
  Calls Tryz.prog 24 #[.pointer (some ⟨g,0,none⟩),.agg #[.bool pw.b1,.slice pw.a1 pw.n1 pw.c1,.bool pw.b2,.slice pw.a2 pw.n2 pw.c2]] w fun e w'=>e=.returned (.tuple #[zeroPart,.int .i64 1])∧Ext w w':=by
 obtain ⟨wb,hwb⟩:=nmE ((w.alloc (.cells #[.bool pw.b1,.slice pw.a1 pw.n1 pw.c1,.bool pw.b2,.slice pw.a2 pw.n2 pw.c2] 54)).alloc (.cells #[.string ⟨#[]⟩,.int .u8 0,.bool false,.slice none 0 0,.bool false,.slice none 0 0,.bool false,.slice none 0 0,.bool false,.slice none 0 0,.int .i64 0] 58));have hE:=aLe2 hwb;have z0:=mK (aL20 hwb);have zR:=mK (aL21 hwb);have hG:=mK (Dx g M wb (h.ext hE).str);have hK:=mK (Or _ _ wb (hp.ext hE));replace hE:=mK hE;replace hwb:=mK hwb;clear h hp;go_enter Tryz.func24,Tryz.ntmps24;have tok:Tok 0:=.mk _
 go_wp2_with (first
  | (replace tok:Tok 1:=nxT 0 tok;go_at_call 30;rw [←hwb.out];refine hG.out.mono ?_;rintro e w' ⟨rfl,rfl⟩)
  | (replace tok:Tok 2:=nxT 1 tok;refine wpList_load_row (by rfl) 54 (.tmp 3) rfl w.heap.size rfl 54 #[.bool pw.b1,.slice pw.a1 pw.n1 pw.c1,.bool pw.b2,.slice pw.a2 pw.n2 pw.c2] (0,0) _ z0.out Tryz.underlying54 rfl (by kernel_rfl) ?_)
  | (replace tok:Tok 3:=nxT 2 tok;go_at_call 95;refine hK.out.mono ?_;rintro e w2 ⟨rfl,hE2⟩;(have zR2:=mK (hE2.blk zR.out));(have hE3:=mK ((hE.out.trans hE2).row (show w.heap.size≤w.heap.size+1 by omega) #[.string ⟨#[]⟩,.int .u8 0,.bool false,.slice none 0 0,.bool false,.slice none 0 0,.bool false,.slice none 0 0,.bool false,.slice none 0 0,.int .i64 0]));clear hE2)
  | (replace tok:Tok 4:=nxT 3 tok;refine wpList_store_row rfl 58 (.tmp 4) (.tmp 16) rfl (w.heap.size+1) #[.string ⟨#[]⟩,.int .u8 0,.bool false,.slice none 0 0,.bool false,.slice none 0 0,.bool false,.slice none 0 0,.bool false,.slice none 0 0,.int .i64 0] rfl rfl 58 _ zR2.out (by kernel_rfl) rfl (by kernel_rfl) ?_))
 exact bodyPost_ret (Ae rfl _ _ (w.heap.size+1) 58 #[.string ⟨#[]⟩,.int .u8 0,.bool false,.slice none 0 0,.bool false,.slice none 0 0,.bool false,.slice none 0 0,.bool false,.slice none 0 0,.int .i64 0] _ _ rfl rfl (setRow_heap _ _ _ _ _ _ zR2.out) Tryz.underlying58 rfl (by kernel_rfl)) rfl ⟨rfl,hE3.out⟩
theorem Ac2 (pw:FV)(x:Rat)(w:World)(g M:Nat)(es:List (PD×Value))(h:Cat w g M es)(hp0:AnyF w (.agg #[.bool pw.b1,.slice pw.a1 pw.n1 pw.c1,.bool pw.b2,.slice pw.a2 pw.n2 pw.c2]) (some x))(hne:(es.map (·.1)).filter lensB=[]) :
  Calls Tryz.prog 24 #[.pointer (some ⟨g,0,none⟩),.agg #[.bool pw.b1,.slice pw.a1 pw.n1 pw.c1,.bool pw.b2,.slice pw.a2 pw.n2 pw.c2]] w fun e w'=>e=.returned (.tuple #[zeroPart,.int .i64 11])∧Ext w w':=by
 obtain ⟨hp,hx⟩:=hp0.frac;obtain ⟨wb,hwb⟩:=nmE ((w.alloc (.cells #[.bool pw.b1,.slice pw.a1 pw.n1 pw.c1,.bool pw.b2,.slice pw.a2 pw.n2 pw.c2] 54)).alloc (.cells #[.string ⟨#[]⟩,.int .u8 0,.bool false,.slice none 0 0,.bool false,.slice none 0 0,.bool false,.slice none 0 0,.bool false,.slice none 0 0,.int .i64 0] 58));have hE:=aLe2 hwb;have z0:=mK (aL20 hwb);have zR:=mK (aL21 hwb);have hsz:=mK (show wb.heap.size=w.heap.size+2 by rw [hwb];simp);have hG:=mK (Dx g M wb (h.ext hE).str);have hK:=mK (Or _ _ wb (hp0.ext hE));have hA:=mK (fun W (e:Ext w W)=>Tm W g M es (h.ext e));have hri:=mK h.map.rising;have hok:=mK h.ok;have hfew:=mK h.few;have hP:=mK (fun W (e:Ext w W)=>hp.ext e);replace hE:=mK hE;replace hwb:=mK hwb;replace hx:=mK hx;replace hne:=mK hne;clear h hp hp0;go_enter Tryz.func24,Tryz.ntmps24;have tok:Tok 0:=.mk _
 go_wp2_with (first
  | (replace tok:Tok 1:=nxT 0 tok;go_at_call 30;rw [←hwb.out];refine hG.out.mono ?_;rintro e w' ⟨rfl,rfl⟩)
  | (replace tok:Tok 2:=nxT 1 tok;refine wpList_load_row (by rfl) 54 (.tmp 3) rfl w.heap.size rfl 54 #[.bool pw.b1,.slice pw.a1 pw.n1 pw.c1,.bool pw.b2,.slice pw.a2 pw.n2 pw.c2] (0,0) _ z0.out Tryz.underlying54 rfl (by kernel_rfl) ?_)
  | (replace tok:Tok 3:=nxT 2 tok;go_at_call 95;refine hK.out.mono ?_;rintro e w2 ⟨rfl,hx2⟩;replace z0:=mK (hx2.blk z0.out);replace zR:=mK (hx2.blk zR.out);replace hE:=mK (hE.out.trans hx2);(have hs2:=mK (show w.heap.size+2≤w2.heap.size by have:=hx2.size;have:=hsz.out;omega));clear hx2)
  | (replace tok:Tok 4:=nxT 3 tok;go_at_call 8;(obtain ⟨w3,hw3⟩:=nmE (w2.alloc (.cells #[.func (.func 96) #[] #[.pointer (some ⟨w.heap.size,0,none⟩)]] 105)));rw [←hw3];(have hx3:=aLe1 hw3);(have zF:=mK (aL10 hw3));replace z0:=mK (hx3.blk z0.out);replace zR:=mK (hx3.blk zR.out);replace hE:=mK (hE.out.trans hx3);(have hs3:=mK (show w2.heap.size<w3.heap.size by rw [hw3];simp));clear hx3;replace hw3:=mK hw3;refine (hA.out w3 hE.out).mono ?_;rintro e w4 ⟨v4,os,rfl,hO,hmap,hx4⟩;replace z0:=mK (hx4.blk z0.out);replace zR:=mK (hx4.blk zR.out);replace zF:=mK (hx4.blk zF.out);replace hE:=mK (hE.out.trans hx4);(have hs4:=mK hx4.size);(have hol:=mK (show os.length≤64 by have h1:=congrArg List.length hmap;rw [List.length_map,List.length_map] at h1;have:=hfew.out;omega));replace hO:=mK hO;replace hmap:=mK hmap;clear hx4)
  | (replace tok:Tok 5:=nxT 4 tok;go_at_call 98;refine (Xr _ _ _ _ hO.out hol.out).mono ?_;rintro e w5 ⟨v5,rfl,hO5,hC5⟩;(have hb5:∀ k,k<w3.heap.size→w5.heap[k]? = w4.heap[k]?:=fun k hk=>hC5.block k (by have:=hs4.out;omega) (fun e=>by have:=(hO.out.ownLt k e).1;omega));(have k1:w.heap.size<w3.heap.size:=by have:=hs2.out;have:=hs3.out;omega);(have k2:w.heap.size+1<w3.heap.size:=by have:=hs2.out;have:=hs3.out;omega);replace z0:=mK ((hb5 _ k1).trans z0.out);replace zR:=mK ((hb5 _ k2).trans zR.out);replace zF:=mK ((hb5 _ hs3.out).trans zF.out);replace hE:=mK (hC5.ext w hE.out (fun k hk e=>by have:=(hO.out.ownLt k e).1;omega));(obtain ⟨a5,c5,rfl,ha5⟩:=hO5.slice);replace hO5:=mK hO5;(have hs5:=mK (show w3.heap.size≤w5.heap.size by have:=hs4.out;have:=hC5.size;omega));clear hC5 hb5;replace ha5:=mK ha5;(have hfil:=mK (show (os.filter lensX).map (·.1)=(es.map (·.1)).filter lensB by rw [Kf,hmap.out]));(have hz5:(os.filter lensX).length=0:=by (have:=congrArg List.length hfil.out;rw [hne.out,List.length_map] at this;simpa using this));rw [hz5];clear hz5;(have hE6:=mK (hE.out.row (show w.heap.size≤w.heap.size+1 by omega) #[.string ⟨#[]⟩,.int .u8 0,.bool false,.slice none 0 0,.bool false,.slice none 0 0,.bool false,.slice none 0 0,.bool false,.slice none 0 0,.int .i64 0])))
  | (replace tok:Tok 6:=nxT 5 tok;refine wpList_store_row rfl 58 (.tmp 4) (.tmp 24) rfl (w.heap.size+1) #[.string ⟨#[]⟩,.int .u8 0,.bool false,.slice none 0 0,.bool false,.slice none 0 0,.bool false,.slice none 0 0,.bool false,.slice none 0 0,.int .i64 0] rfl rfl 58 _ zR.out (by kernel_rfl) rfl (by kernel_rfl) ?_))
 exact bodyPost_ret (Ae rfl _ _ (w.heap.size+1) 58 #[.string ⟨#[]⟩,.int .u8 0,.bool false,.slice none 0 0,.bool false,.slice none 0 0,.bool false,.slice none 0 0,.bool false,.slice none 0 0,.int .i64 0] _ _ rfl rfl (setRow_heap _ _ _ _ _ _ zR.out) Tryz.underlying58 rfl (by kernel_rfl)) rfl ⟨rfl,hE6.out⟩
theorem Aht (pw:FV)(x:Rat)(w:World)(g M:Nat)(es:List (PD×Value))(h:Cat w g M es)(hp0:AnyF w (.agg #[.bool pw.b1,.slice pw.a1 pw.n1 pw.c1,.bool pw.b2,.slice pw.a2 pw.n2 pw.c2]) (some x))(hne:(es.map (·.1)).filter lensB≠[]) :
  Calls Tryz.prog 24 #[.pointer (some ⟨g,0,none⟩),.agg #[.bool pw.b1,.slice pw.a1 pw.n1 pw.c1,.bool pw.b2,.slice pw.a2 pw.n2 pw.c2]] w (Ajx w x es):=by
 obtain ⟨hp,hx⟩:=hp0.frac;obtain ⟨wb,hwb⟩:=nmE ((w.alloc (.cells #[.bool pw.b1,.slice pw.a1 pw.n1 pw.c1,.bool pw.b2,.slice pw.a2 pw.n2 pw.c2] 54)).alloc (.cells #[.string ⟨#[]⟩,.int .u8 0,.bool false,.slice none 0 0,.bool false,.slice none 0 0,.bool false,.slice none 0 0,.bool false,.slice none 0 0,.int .i64 0] 58));have hE:=aLe2 hwb;have z0:=mK (aL20 hwb);have zR:=mK (aL21 hwb);have hsz:=mK (show wb.heap.size=w.heap.size+2 by rw [hwb];simp);have hG:=mK (Dx g M wb (h.ext hE).str);have hK:=mK (Or _ _ wb (hp0.ext hE));have hA:=mK (fun W (e:Ext w W)=>Tm W g M es (h.ext e));have hri:=mK h.map.rising;have hok:=mK h.ok;have hfew:=mK h.few;have hP:=mK (fun W (e:Ext w W)=>hp.ext e);replace hE:=mK hE;replace hwb:=mK hwb;replace hx:=mK hx;replace hne:=mK hne;clear h hp hp0;go_enter Tryz.func24,Tryz.ntmps24;have tok:Tok 0:=.mk _
 go_wp2_with (first
  | (replace tok:Tok 1:=nxT 0 tok;go_at_call 30;rw [←hwb.out];refine hG.out.mono ?_;rintro e w' ⟨rfl,rfl⟩)
  | (replace tok:Tok 2:=nxT 1 tok;refine wpList_load_row (by rfl) 54 (.tmp 3) rfl w.heap.size rfl 54 #[.bool pw.b1,.slice pw.a1 pw.n1 pw.c1,.bool pw.b2,.slice pw.a2 pw.n2 pw.c2] (0,0) _ z0.out Tryz.underlying54 rfl (by kernel_rfl) ?_)
  | (replace tok:Tok 3:=nxT 2 tok;go_at_call 95;refine hK.out.mono ?_;rintro e w2 ⟨rfl,hx2⟩;replace z0:=mK (hx2.blk z0.out);replace zR:=mK (hx2.blk zR.out);replace hE:=mK (hE.out.trans hx2);(have hs2:=mK (show w.heap.size+2≤w2.heap.size by have:=hx2.size;have:=hsz.out;omega));clear hx2)
  | (replace tok:Tok 4:=nxT 3 tok;go_at_call 8;(obtain ⟨w3,hw3⟩:=nmE (w2.alloc (.cells #[.func (.func 96) #[] #[.pointer (some ⟨w.heap.size,0,none⟩)]] 105)));rw [←hw3];(have hx3:=aLe1 hw3);(have zF:=mK (aL10 hw3));replace z0:=mK (hx3.blk z0.out);replace zR:=mK (hx3.blk zR.out);replace hE:=mK (hE.out.trans hx3);(have hs3:=mK (show w2.heap.size<w3.heap.size by rw [hw3];simp));clear hx3;replace hw3:=mK hw3;refine (hA.out w3 hE.out).mono ?_;rintro e w4 ⟨v4,os,rfl,hO,hmap,hx4⟩;replace z0:=mK (hx4.blk z0.out);replace zR:=mK (hx4.blk zR.out);replace zF:=mK (hx4.blk zF.out);replace hE:=mK (hE.out.trans hx4);(have hs4:=mK hx4.size);(have hol:=mK (show os.length≤64 by have h1:=congrArg List.length hmap;rw [List.length_map,List.length_map] at h1;have:=hfew.out;omega));replace hO:=mK hO;replace hmap:=mK hmap;clear hx4)
  | (replace tok:Tok 5:=nxT 4 tok;go_at_call 98;refine (Xr _ _ _ _ hO.out hol.out).mono ?_;rintro e w5 ⟨v5,rfl,hO5,hC5⟩;(have hb5:∀ k,k<w3.heap.size→w5.heap[k]? = w4.heap[k]?:=fun k hk=>hC5.block k (by have:=hs4.out;omega) (fun e=>by have:=(hO.out.ownLt k e).1;omega));(have k1:w.heap.size<w3.heap.size:=by have:=hs2.out;have:=hs3.out;omega);(have k2:w.heap.size+1<w3.heap.size:=by have:=hs2.out;have:=hs3.out;omega);replace z0:=mK ((hb5 _ k1).trans z0.out);replace zR:=mK ((hb5 _ k2).trans zR.out);replace zF:=mK ((hb5 _ hs3.out).trans zF.out);replace hE:=mK (hC5.ext w hE.out (fun k hk e=>by have:=(hO.out.ownLt k e).1;omega));(obtain ⟨a5,c5,rfl,ha5⟩:=hO5.slice);replace hO5:=mK hO5;(have hs5:=mK (show w3.heap.size≤w5.heap.size by have:=hs4.out;have:=hC5.size;omega));clear hC5 hb5;replace ha5:=mK ha5;(have hfil:=mK (show (os.filter lensX).map (·.1)=(es.map (·.1)).filter lensB by rw [Kf,hmap.out]));(obtain ⟨m0,r,hmr⟩:=List.exists_cons_of_ne_nil (show os.filter lensX≠[] from fun he=>hne.out (by rw [←hfil.out,he];rfl)));(have hO6:=hO5.out);(have ha6:=ha5.out);rw [hmr] at hO6 ha6 ⊢;(obtain ⟨g5,rfl⟩:=ha6 (by simp));(obtain ⟨-,hc1,hc2,hlg,rest,-,hr5⟩:=hO6.rowC);(have hnf:=Ahu hmap.out hok.out hmr);(obtain ⟨n5,hn5⟩:=nmE ((m0::r).length));(have hn64:n5≤64:=by rw [hn5,←hmr];exact nT (List.length_filter_le _ _) hol.out);(have MC:=Ajr m0 r rest g5 c5 x pw w.heap.size w2.heap.size w5 hO6.allV (by rw [←hn5];exact hn64) hr5 (fun y hy=>(hO6.part y hy).r) hnf hx.out (hP.out _ hE.out) z0.out zF.out);(have hmem:=Ah0 x m0 r);(obtain ⟨dm,vm,hdm⟩:∃ d v,minX x m0 r=(d,v):=⟨_,_,rfl⟩);rw [hdm] at MC hmem;(obtain ⟨pm,qm,em⟩:=hO6.allV _ hmem);(have em':vm=.agg #[.string dm.nm,.int .u8 dm.kd,.bool pm.b1,.slice pm.a1 pm.n1 pm.c1,.bool pm.b2,.slice pm.a2 pm.n2 pm.c2,.bool qm.b1,.slice qm.a1 qm.n1 qm.c1,.bool qm.b2,.slice qm.a2 qm.n2 qm.c2,.int .i64 dm.co]:=em);subst em';rw [←hn5] at MC ⊢;(have hng:=mK (show Bn x none (es.map (·.1))=some dm by rw [Afe hri.out hmap.out x hmr,hdm]));(have hPm:=mK (show PartK w3.heap.size w5 (.agg #[.string dm.nm,.int .u8 dm.kd,.bool pm.b1,.slice pm.a1 pm.n1 pm.c1,.bool pm.b2,.slice pm.a2 pm.n2 pm.c2,.bool qm.b1,.slice qm.a1 qm.n1 qm.c1,.bool qm.b2,.slice qm.a2 qm.n2 qm.c2,.int .i64 dm.co]) dm from hO6.part _ hmem));(have hn0:((n5:Int)==0)=false:=by (have hp:0<n5:=by rw [hn5];simp);(have hp2:(n5:Int)≠0:=by omega);simpa using hp2);replace MC:=mK MC;clear hO6 ha6 hr5 hnf hmem em hn64 hn5 hc1 hc2 hlg hdm hmr)
  | (replace tok:Tok 6:=nxT 5 tok;go_at_call 100;refine MC.out.mono ?_;rintro e w6 hq;(obtain ⟨he6,hx6⟩:e=.returned (.agg #[.string dm.nm,.int .u8 dm.kd,.bool pm.b1,.slice pm.a1 pm.n1 pm.c1,.bool pm.b2,.slice pm.a2 pm.n2 pm.c2,.bool qm.b1,.slice qm.a1 qm.n1 qm.c1,.bool qm.b2,.slice qm.a2 qm.n2 qm.c2,.int .i64 dm.co])∧Ext w5 w6:=hq);subst he6;replace zR:=mK (hx6.blk zR.out);(have hE7:=mK ((hE.out.trans hx6).row (show w.heap.size≤w.heap.size+1 by omega) #[.string dm.nm,.int .u8 dm.kd,.bool pm.b1,.slice pm.a1 pm.n1 pm.c1,.bool pm.b2,.slice pm.a2 pm.n2 pm.c2,.bool qm.b1,.slice qm.a1 qm.n1 qm.c1,.bool qm.b2,.slice qm.a2 qm.n2 qm.c2,.int .i64 dm.co]));(have hP7:=mK (((hPm.out.ext hx6).row (g:=w.heap.size+1) (by have:=hs2.out;have:=hs3.out;omega) #[.string dm.nm,.int .u8 dm.kd,.bool pm.b1,.slice pm.a1 pm.n1 pm.c1,.bool pm.b2,.slice pm.a2 pm.n2 pm.c2,.bool qm.b1,.slice qm.a1 qm.n1 qm.c1,.bool qm.b2,.slice qm.a2 qm.n2 qm.c2,.int .i64 dm.co]).mono (show w.heap.size≤w3.heap.size by have:=hs2.out;have:=hs3.out;omega)));clear hx6)
  | (replace tok:Tok 7:=nxT 6 tok;refine wpList_store_row rfl 58 (.tmp 4) (.tmp 27) rfl (w.heap.size+1) #[.string dm.nm,.int .u8 dm.kd,.bool pm.b1,.slice pm.a1 pm.n1 pm.c1,.bool pm.b2,.slice pm.a2 pm.n2 pm.c2,.bool qm.b1,.slice qm.a1 qm.n1 qm.c1,.bool qm.b2,.slice qm.a2 qm.n2 qm.c2,.int .i64 dm.co] rfl rfl 58 _ zR.out (by kernel_rfl) rfl (by kernel_rfl) ?_))
 exact bodyPost_ret (Ae rfl _ _ (w.heap.size+1) 58 #[.string dm.nm,.int .u8 dm.kd,.bool pm.b1,.slice pm.a1 pm.n1 pm.c1,.bool pm.b2,.slice pm.a2 pm.n2 pm.c2,.bool qm.b1,.slice qm.a1 qm.n1 qm.c1,.bool qm.b2,.slice qm.a2 qm.n2 qm.c2,.int .i64 dm.co] _ _ rfl rfl (setRow_heap _ _ _ _ _ _ zR.out) Tryz.underlying58 rfl (by kernel_rfl)) rfl ⟨_,dm,rfl,hng.out,hP7.out,hE7.out⟩
end Go.Proofs.YteogdoglboddhaaGreatDoor
namespace Go.Proofs.YteogdoglboddhaaGreatDoor
set_option maxRecDepth 100000
open Go Go.RowKit Go.Proofs Go.Lib
theorem Ci {x:Rat}(h:nf x≤2048):(Ar x).length≤131077:=by
 have h1:=Ep x.num;have h2:=Ep (x.den:Int);have h3:nl x.num≤2048:=nT (Nat.le_max_left _ _) h;have h4:nl (x.den:Int)≤2048:=nT (Nat.le_max_right _ _) h;unfold Ar;split
 ·omega
 ·rw [List.length_append,List.length_cons]
  omega
theorem okPD.co {d:PD}(h:okPD d):0≤d.co∧d.co≤1073741824:=by
 have:=h.2.2.2;unfold mayP at this;simp only [Bool.and_eq_true,decide_eq_true_eq] at this;exact ⟨this.1,this.2.1⟩
theorem okPD.nm {d:PD}(h:okPD d):d.nm.size≤32:=by
 have:=h.2.2.1;unfold Co at this;simp only [Bool.and_eq_true,decide_eq_true_eq] at this;have:=this.2.1;rw [Array.length_toList] at this;exact this
theorem Fh {n:Nat}(h:n≤1073741824):(decDigits n).length≤32:=by
 rw [decDigits_length];exact Abi (k:=31) (by omega)
theorem Sv {d:PD}(h:okPD d):(Hs d).length≤73:=by
 obtain ⟨h1,h2⟩:=h.co;have h3:=h.nm;have h4:=Gs d.kd
 have h5:(itoa d.co).length≤32:=by
  unfold itoa;rw [if_neg (by omega)];exact Fh (by omega)
 unfold Hs;simp only [List.length_append,List.length_cons,Array.length_toList];have:d.nm.data.size=d.nm.size:=rfl;omega
theorem Ij:∀ (l:List Rat),(∀ x∈l,nf x≤2048)→(Ds l).length≤l.length*131078
 | [],_=>by simp [Ds]
 | x::r,h=>by
  have ih:=Ij r fun y hy=>h y (List.mem_cons_of_mem _ hy)
  have h1:=Ci (h x (List.mem_cons_self ..))
  have:Ds (x::r)=(32::Ar x)++Ds r:=rfl
  rw [this,List.length_append,List.length_cons,List.length_cons]
  omega
theorem Sy {d:PD}(h:okPD d):∀ x∈Bp d,nf x≤2048:=by
 intro x hx;have:=List.mem_of_mem_take hx;simp only [List.mem_cons,List.not_mem_nil,or_false] at this;rcases this with rfl|rfl
 ·exact h.1
 ·exact h.2.1
theorem Kd (d:PD):(Bp d).length=Dg d.kd:=by
 unfold Bp;rw [List.length_take];have:=Fm d.kd;simp only [List.length_cons,List.length_nil];omega
theorem Sq {d:PD}(h:okPD d):(Qg d).length≤262300:=by
 have h1:=Sv h;have h2:=Ij (Bp d) (Sy h);rw [Kd] at h2;have:=Fm d.kd;unfold Qg;simp only [List.length_append,List.length_cons,List.length_nil];omega
theorem Sb:∀ (L:List PD),(∀ d∈L,okPD d)→(Bd L).length≤L.length*262300
 | [],_=>by simp [Bd]
 | d::r,h=>by
  have ih:=Sb r fun y hy=>h y (List.mem_cons_of_mem _ hy)
  have h1:=Sq (h d (List.mem_cons_self ..))
  have:Bd (d::r)=Qg d++Bd r:=rfl
  rw [this,List.length_append,List.length_cons]
  omega
theorem PartR.pq {w:World}{d:PD}{p q:FV}(h:PartR w (.agg #[.string d.nm,.int .u8 d.kd,.bool p.b1,.slice p.a1 p.n1 p.c1,.bool p.b2,.slice p.a2 p.n2 p.c2,.bool q.b1,.slice q.a1 q.n1 q.c1,.bool q.b2,.slice q.a2 q.n2 q.c2,.int .i64 d.co]) d):FracR w (.agg #[.bool p.b1,.slice p.a1 p.n1 p.c1,.bool p.b2,.slice p.a2 p.n2 p.c2]) d.p∧FracR w (.agg #[.bool q.b1,.slice q.a1 q.n1 q.c1,.bool q.b2,.slice q.a2 q.n2 q.c2]) d.q:=by
 obtain ⟨_,_,_,_,_,_,_,_,_,_,_,_,_,_,_,_,e,h1,h2⟩:=h;simp only [Value.agg.injEq,Array.mk.injEq,List.cons.injEq,and_true,Value.bool.injEq,Value.slice.injEq,true_and] at e;obtain ⟨rfl,⟨rfl,rfl,rfl⟩,rfl,⟨rfl,rfl,rfl⟩,rfl,⟨rfl,rfl,rfl⟩,rfl,rfl,rfl,rfl⟩:=e;exact ⟨h1,h2⟩
theorem Afw {d:PD}{n:Nat}(hn:d.co=n){S1 S2 S3 S4:ByteArray}(h1:S1=d.nm++⟨#[32]⟩)(h2:S2=S1++⟨(decDigits n).toArray⟩)(h3:S3=S2++⟨#[32]⟩)(h4:S4=S3++⟨(Dl d.kd).toArray⟩):Lib.strCells S4=byteCells (Hs d):=by
 rw [Lib.strCells_eq];congr 1;subst h4 h3 h2 h1;unfold Hs itoa;rw [hn,if_neg (by omega)];simp [ByteArray.data_append]
theorem Nb (a b:List UInt8):byteCells a++byteCells b=byteCells (a++b):=by simp [byteCells]
theorem Aee (l:List UInt8):Lib.strCells ((⟨#[32]⟩:ByteArray)++⟨l.toArray⟩)=byteCells (32::l):=by
 rw [Lib.strCells_eq];congr 1
theorem Af0 {d:PD}{p q:FV}{i:Nat}(hi:i<(Bp d).length):∃ (x:Rat) (f:FV),(Bp d)[i]=x∧(#[.bool p.b1,.slice p.a1 p.n1 p.c1,.bool p.b2,.slice p.a2 p.n2 p.c2,.bool q.b1,.slice q.a1 q.n1 q.c1,.bool q.b2,.slice q.a2 q.n2 q.c2]:Array Value).extract (i*4) (i*4+(#[.bool f.b1,.slice f.a1 f.n1 f.c1,.bool f.b2,.slice f.a2 f.n2 f.c2]:Array Value).size)=#[.bool f.b1,.slice f.a1 f.n1 f.c1,.bool f.b2,.slice f.a2 f.n2 f.c2]∧∀ W,(FracR W (.agg #[.bool p.b1,.slice p.a1 p.n1 p.c1,.bool p.b2,.slice p.a2 p.n2 p.c2]) d.p∧FracR W (.agg #[.bool q.b1,.slice q.a1 q.n1 q.c1,.bool q.b2,.slice q.a2 q.n2 q.c2]) d.q)→FracR W (.agg #[.bool f.b1,.slice f.a1 f.n1 f.c1,.bool f.b2,.slice f.a2 f.n2 f.c2]) x:=by
 have h2:i<2:=by have:=Kd d;have:=Fm d.kd;omega
 unfold Bp at hi ⊢;rcases (show i=0∨i=1 by omega) with rfl|rfl
 ·exact ⟨d.p,p,by simp,rfl,fun W h=>h.1⟩
 ·exact ⟨d.q,q,by simp,rfl,fun W h=>h.2⟩
def TxtR (wA:World)(lo b:Nat)(os:List (PD×Value))(t16:Value)(wr:World):Prop:=
 ∃ k:Nat,k≤os.length∧t16=.int .i64 k∧IsBuilt lo b (byteCells (Bd ((os.take k).map (·.1)))) wr∧Chg wA wr (bS b lo)
def InR (wB:World)(lo b:Nat)(acc:List UInt8)(fs:List Rat)(t48:Value)(wr:World):Prop:=
 ∃ i:Nat,i≤fs.length∧t48=.int .i64 i∧IsBuilt lo b (byteCells (acc++Ds (fs.take i))) wr∧Chg wB wr (bS b lo)∧Keeps b wB wr
def Yg (w:World)(es:List (PD×Value))(e:Ending)(w':World):Prop:=
 e=.returned (if (Bd (es.map (·.1))).length≤65536 then .tuple #[.string ⟨(Bd (es.map (·.1))).toArray⟩,.int .i64 0] else .tuple #[.string ⟨#[]⟩,.int .i64 4])∧Ext w w'
theorem Aiy (w:World)(g M:Nat)(es:List (PD×Value))(h:Cat w g M es)(ht:Tab10 w) :
  Calls Tryz.prog 27 #[.pointer (some ⟨g,0,none⟩)] w (Yg w es):=by
 obtain ⟨w1,hw1⟩:=nmE (w.alloc (.cells #[.pointer none,.slice none 0 0] 117));have hE1:=aLe1 hw1;have hsz:=mK (aLs1 hw1);have z1:=mK (aL10 hw1);have hG:=mK (Dx g M w h.str);have hA:=mK (Tm w1 g M es (h.ext hE1));have hok:=mK h.ok;have hfew:=mK h.few;have hT:=mK (fun W (e:Ext w W)=>Cx ht e);replace hw1:=mK hw1;replace hE1:=mK hE1;clear h ht;go_enter Tryz.func27,Tryz.ntmps27;have tok:Tok 0:=.mk _
 go_wp2_with (first
  | (replace tok:Tok 1:=nxT 0 tok;go_at_call 30;refine hG.out.mono ?_;rintro e w' ⟨rfl,rfl⟩)
  | (replace tok:Tok 2:=nxT 1 tok;go_at_call 8;rw [←hw1.out];refine hA.out.mono ?_;rintro e wA ⟨v,os,rfl,hO,hmap,hxA⟩;(obtain ⟨a,c,rfl,ha⟩:=hO.slice);replace hO:=mK hO;replace hmap:=mK hmap;replace hxA:=mK hxA;replace ha:=mK ha))
 clear tok hG hA
 have hol:os.length≤64:=by
  have h1:=congrArg List.length hmap.out;rw [List.length_map,List.length_map] at h1;have:=hfew.out;omega
 have hoks:∀ x∈os,okPD x.1:=by
  intro x hx;have h1:x.1∈os.map (·.1):=List.mem_map.2 ⟨x,hx,rfl⟩;rw [hmap.out] at h1;obtain ⟨z,hz,e⟩:=List.mem_map.1 h1;rw [←e];exact hok.out z hz
 have hba:w.heap.size<wA.heap.size:=by have:=hxA.out.size;have:=hsz.out;omega
 have st:Hid (TxtR wA wA.heap.size w.heap.size os (.int .i64 0) wA):=⟨0,Nat.zero_le _,rfl,Xz hba (hxA.out.blk z1.out),Chg.refl _ _⟩
 replace hoks:=mK hoks;go_loopw [16] (fun t16 wr=>TxtR wA wA.heap.size w.heap.size os t16 wr) (fun t16 _=>os.length-(intOf t16).toNat)
 case atStart=>exact st.out
 case round=>
  clear st;obtain ⟨k,hk,rfl,hB,hch⟩:=hrel;obtain ⟨w2,rfl⟩:=nmE (wr:World)
  have hEw:Ext w w2:=hch.ext w (hE1.out.trans hxA.out) fun k hk hs=>by
   rcases hs with rfl|hs
   ·omega
   ·omega
  by_cases hlt:k<os.length
  ·obtain ⟨gL,rfl⟩:=ha.out (by intro e;rw [e] at hlt;simp at hlt)
   obtain ⟨-,-,-,hlo,rest,-,hrow⟩:=hO.out.rowC;have hgA:gL<wA.heap.size:=(Array.getElem?_eq_some_iff.1 hrow).1;have hrow2:=mK ((hch.block gL hgA (by rintro (rfl|h);(have:=hsz.out;omega);omega)).trans hrow);obtain ⟨d,v,hdv⟩:∃ d v,os[k]=(d,v):=⟨_,_,rfl⟩
   have hmem:(d,v)∈os:=by rw [←hdv];exact List.getElem_mem hlt
   have hPA:=hO.out.part _ hmem
   have hP2:=hPA.near (w':=w2) fun y hy=>hch.block y (hPA.span y hy).2 (by
    have h1:=(hPA.span y hy).1;have h2:=(hPA.span y hy).2;have:=hsz.out
    rintro (rfl|h3)<;>omega)
   obtain ⟨p,q,e0,hfp,hfq⟩:=hP2.r.fv;have e0':v=.agg #[.string d.nm,.int .u8 d.kd,.bool p.b1,.slice p.a1 p.n1 p.c1,.bool p.b2,.slice p.a2 p.n2 p.c2,.bool q.b1,.slice q.a1 q.n1 q.c1,.bool q.b2,.slice q.a2 q.n2 q.c2,.int .i64 d.co]:=e0;subst e0';have hx:=mK (Cr hO.out.allV hlt rest (sub:=#[.string d.nm,.int .u8 d.kd,.bool p.b1,.slice p.a1 p.n1 p.c1,.bool p.b2,.slice p.a2 p.n2 p.c2,.bool q.b1,.slice q.a1 q.n1 q.c1,.bool q.b2,.slice q.a2 q.n2 q.c2,.int .i64 d.co]) (by rw [hdv]));have hokd:okPD d:=hoks.out _ hmem;obtain ⟨hco0,hco1⟩:=hokd.co;obtain ⟨n,hn⟩:∃ n:Nat,d.co=n:=⟨d.co.toNat,by omega⟩
   have hn1:n≤1073741824:=by omega
   obtain ⟨w3,hw3⟩:=nmE ((w2.alloc (.cells #[.string ⟨#[]⟩,.int .u8 0,.bool false,.slice none 0 0,.bool false,.slice none 0 0,.bool false,.slice none 0 0,.bool false,.slice none 0 0,.int .i64 0] 58)).setRow w2.heap.size #[.string d.nm,.int .u8 d.kd,.bool p.b1,.slice p.a1 p.n1 p.c1,.bool p.b2,.slice p.a2 p.n2 p.c2,.bool q.b1,.slice q.a1 q.n1 q.c1,.bool q.b2,.slice q.a2 q.n2 q.c2,.int .i64 d.co]);have hE3:Ext w2 w3:=by rw [hw3];exact ((xR w2).al _).row (nR _) _
   have z3:=mK (show w3.heap[w2.heap.size]? = some (.cells #[.string d.nm,.int .u8 d.kd,.bool p.b1,.slice p.a1 p.n1 p.c1,.bool p.b2,.slice p.a2 p.n2 p.c2,.bool q.b1,.slice q.a1 q.n1 q.c1,.bool q.b2,.slice q.a2 q.n2 q.c2,.int .i64 d.co] 58 (0,0)) by rw [hw3];exact setRow_heap _ _ _ _ _ _ (heap_alloc_new _ _));have y3:w3.cell? ⟨w2.heap.size,1,none⟩=some (.int .u8 d.kd):=Aa z3.out 1;have hW:=mK (fun W=>Aiw d.kd W);have hlt':(k:Int)<(os.length:Int):=by omega
   have hN2:((Dg d.kd:Nat):Int)≤2:=by have:=Fm d.kd;omega
   replace hB:=mK hB;replace hch:=mK hch;replace hEw:=mK hEw;replace hw3:=mK hw3;replace hE3:=mK hE3;replace hdv:=mK hdv
   have hFR:=mK (fun W (e:Chg wA W (bS w.heap.size wA.heap.size))=>(hPA.near (w':=W) fun y hy=>e.block y (hPA.span y hy).2 (by
    have h1:=(hPA.span y hy).1;have h2:=(hPA.span y hy).2;have:=hsz.out
    rintro (rfl|h3)<;>omega)).r.pq)
   clear hfp hfq;replace hokd:=mK hokd;replace hn:=mK hn;clear e0 hP2 hPA hmem hco0 hco1 hrow hlo;have tok:Tok 0:=.mk _
   go_wp2_with (first
    | (replace tok:Tok 1:=nxT 0 tok;refine Ab (by rfl) 58 (.tmp 18) rfl gL (k*11) ?zz 58 _ #[.string d.nm,.int .u8 d.kd,.bool p.b1,.slice p.a1 p.n1 p.c1,.bool p.b2,.slice p.a2 p.n2 p.c2,.bool q.b1,.slice q.a1 q.n1 q.c1,.bool q.b2,.slice q.a2 q.n2 q.c2,.int .i64 d.co] (0,0) _ hrow2.out hx.out Tryz.underlying58 rfl (by kernel_rfl) ?_;(case zz=>rfl))
    | (replace tok:Tok 2:=nxT 1 tok;refine wpList_store_row rfl 58 (.tmp 6) (.tmp 19) rfl w2.heap.size #[.string d.nm,.int .u8 d.kd,.bool p.b1,.slice p.a1 p.n1 p.c1,.bool p.b2,.slice p.a2 p.n2 p.c2,.bool q.b1,.slice q.a1 q.n1 q.c1,.bool q.b2,.slice q.a2 q.n2 q.c2,.int .i64 d.co] rfl rfl 58 _ (heap_alloc_new _ _) (by kernel_rfl) rfl (by kernel_rfl) ?_;rw [←hw3.out])
    | (replace tok:Tok 3:=nxT 2 tok;go_at_call 110;refine (hW.out _).mono ?_;rintro e w4 ⟨rfl,rfl⟩))
   clear tok;have hnm:=hokd.out.nm;have hdl:=Fh hn1;have hwl:=Gs d.kd;have hL1:=mK (show ¬9223372036854775807<d.nm.size+1 by omega);have hL2:=mK (show ¬9223372036854775807<d.nm.size+1+(decDigits n).length by omega);have hL3:=mK (show ¬9223372036854775807<d.nm.size+1+(decDigits n).length+1 by omega);have hL4:=mK (show ¬9223372036854775807<d.nm.size+1+(decDigits n).length+1+(Dl d.kd).length by omega);have hEw3:=mK (hEw.out.trans hE3.out);have hI:=mK (fun W (e:Ext w W)=>Zx n W (by omega) (hT.out W e));obtain ⟨S1,hS1⟩:=nmE (d.nm++⟨#[32]⟩);obtain ⟨S2,hS2⟩:=nmE (S1++⟨(decDigits n).toArray⟩);obtain ⟨S3,hS3⟩:=nmE (S2++⟨#[32]⟩);obtain ⟨S4,hS4⟩:=nmE (S3++⟨(Dl d.kd).toArray⟩);have hz1:=mK (show S1.size=d.nm.size+1 by rw [hS1,ByteArray.size_append];rfl);have hz2:=mK (show S2.size=d.nm.size+1+(decDigits n).length by rw [hS2,ByteArray.size_append,hz1.out];exact congrArg _ List.size_toArray);have hz3:=mK (show S3.size=d.nm.size+1+(decDigits n).length+1 by rw [hS3,ByteArray.size_append,hz2.out];rfl);replace hS1:=mK hS1;replace hS2:=mK hS2;replace hS3:=mK hS3;replace hS4:=mK hS4;clear hnm hdl hwl;apply Ad [.val (.pointer (some ⟨w2.heap.size,0,none⟩)),.val (.string d.nm),.val (.string S1),.val (.pointer (some ⟨w2.heap.size,10,none⟩)),.val (.int .i64 n),.val (.string ⟨(decDigits n).toArray⟩),.val (.string S2),.val (.string S3),.val (.string ⟨(Dl d.kd).toArray⟩),.val (.string S4)] (by kernel_rfl) (stable_vals _ (stable_vals _ (stable_vals _ (stable_vals _ (stable_vals _ (stable_vals _ (stable_vals _ (stable_vals _ (stable_vals _ (stable_vals _ trivial))))))))));refine ⟨fun W hW _=>by go_simp;first|exact ⟨xR _,rfl⟩|exact xR _,?_⟩;refine ⟨fun W hW _=>by have:=Aa (hW.blk z3.out) 0;go_simp;first|exact ⟨xR _,rfl⟩|exact xR _,?_⟩;refine ⟨fun W hW _=>?s1,?_⟩
   case s1=>
    go_simp;rw [if_neg hL1.out,←hS1.out];exact ⟨xR _,rfl⟩
   refine ⟨fun W hW _=>by go_simp;first|exact ⟨xR _,rfl⟩|exact xR _,?_⟩;refine ⟨fun W hW _=>?s4,?_⟩
   case s4=>
    have hc:=Aa (hW.blk z3.out) 10;replace hc:W.cell? ⟨w2.heap.size,10,none⟩=some (.int .i64 n):=by rw [hc,←hn.out];rfl
    go_simp;first|exact ⟨xR _,rfl⟩|exact xR _
   refine ⟨fun W hW _=>?s5,?_⟩
   case s5=>
    go_simp;refine (hI.out W (hEw3.out.trans hW)).mono ?_;rintro e w' ⟨rfl,h1⟩;exact ⟨rfl,h1⟩
   refine ⟨fun W hW _=>?s6,?_⟩
   case s6=>
    go_simp;rw [hz1.out,if_neg hL2.out,←hS2.out];exact ⟨xR _,rfl⟩
   refine ⟨fun W hW _=>?s7,?_⟩
   case s7=>
    go_simp;rw [hz2.out,if_neg hL3.out,←hS3.out];exact ⟨xR _,rfl⟩
   refine ⟨fun W hW _=>by go_simp;first|exact ⟨xR _,rfl⟩|exact xR _,?_⟩;refine ⟨fun W hW _=>?s9,fun W hW _=>?fin⟩
   case s9=>
    go_simp;rw [hz3.out,if_neg hL4.out,←hS4.out];exact ⟨xR _,rfl⟩
   case fin=>
    have hTl:=Sb ((os.take k).map (·.1)) (by intro y hy;obtain ⟨z,hz,rfl⟩:=List.mem_map.1 hy;exact hoks.out z (List.mem_of_mem_take hz));rw [List.length_map,List.length_take] at hTl;generalize hTT:Bd ((os.take k).map (·.1))=TT at *;have hTT64:TT.length≤64*262300:=nT hTl (Nat.mul_le_mul_right _ (by omega));have hhl:=Sv hokd.out;have hS4c:=Afw hn.out hS1.out hS2.out hS3.out hS4.out
    have hS4z:S4.size=(Hs d).length:=by
     have:=congrArg List.length hS4c;rw [Lib.strCells_length,byteCells_length] at this;exact this
    have hcAW:Chg wA W (bS w.heap.size wA.heap.size):=hch.out.trans (Chg.of_ext (hE3.out.trans hW) _);have BW:=mK (bwrite2 wA.heap.size w.heap.size (byteCells TT) S4 W (hB.out.ext (hE3.out.trans hW)) (by rw [byteCells_length,hS4z];omega) (by have:=hcAW.size;omega));have hzW:=mK (hW.blk z3.out);have hbw2:=mK (show w2.heap.size≠w.heap.size by have:=hch.out.size;omega);replace hcAW:=mK hcAW;replace hS4c:=mK hS4c;replace hTT:=mK hTT;replace hTT64:=mK hTT64;replace hhl:=mK hhl;clear hTl hW hS4z;go_simp;have tok:Tok 20:=.mk _
    go_wp2_with (first
     | (replace tok:Tok 21:=nxT 20 tok;go_at_call 111;refine BW.out.mono ?_;rintro e w5 ⟨rfl,hB5,hC5,hK5⟩;(have z5:=mK (hK5 _ _ _ _ hbw2.out (by decide) hzW.out));replace hB5:=mK hB5;replace hC5:=mK (hcAW.out.trans hC5);clear hK5)
     | (replace tok:Tok 22:=nxT 21 tok;refine Ab (by rfl) 54 (.tmp 39) rfl w2.heap.size 2 ?zya 58 _ #[.bool p.b1,.slice p.a1 p.n1 p.c1,.bool p.b2,.slice p.a2 p.n2 p.c2] (0,0) _ z5.out ?zyb Tryz.underlying54 rfl (by kernel_rfl) ?_;(case zya=>rfl);(case zyb=>rfl))
     | (replace tok:Tok 23:=nxT 22 tok;refine Ab (by rfl) 54 (.tmp 42) rfl w2.heap.size 6 ?zyc 58 _ #[.bool q.b1,.slice q.a1 q.n1 q.c1,.bool q.b2,.slice q.a2 q.n2 q.c2] (0,0) _ z5.out ?zyd Tryz.underlying54 rfl (by kernel_rfl) ?_;(case zyc=>rfl);(case zyd=>rfl)))
    clear tok;obtain ⟨w6,hw6⟩:=nmE (w5.alloc (.cells #[.bool p.b1,.slice p.a1 p.n1 p.c1,.bool p.b2,.slice p.a2 p.n2 p.c2,.bool q.b1,.slice q.a1 q.n1 q.c1,.bool q.b2,.slice q.a2 q.n2 q.c2] 54));rw [←hw6];have hx6:=aLe1 hw6;have z6:=mK (aL10 hw6);have hC6:=mK (hC5.out.trans (Chg.of_ext hx6 _));have hb5:=mK (show w5.heap.size≠w.heap.size by have:=hC5.out.size;omega);have hB6:=hB5.out.ext hx6;rw [hS4c.out,Nb] at hB6;obtain ⟨acc,hacc⟩:=nmE (TT++Hs d);rw [←hacc] at hB6;have hal:acc.length≤64*262300+73:=by rw [hacc,List.length_append];have:=hTT64.out;have:=hhl.out;omega
    have hfl:=mK (Kd d);have hfo:=mK (Sy hokd.out);have hfa:=mK (fun (i:Nat) (hi:i<(Bp d).length)=>Af0 (p:=p) (q:=q) hi);replace hw6:=mK hw6;replace hacc:=mK hacc;replace hal:=mK hal;have st:Hid (InR w6 wA.heap.size w.heap.size acc (Bp d) (.int .i64 0) w6):=⟨0,Nat.zero_le _,rfl,by simpa [Ds] using hB6,Chg.refl _ _,Keeps.ext (xR _)⟩
    clear hx6 hB6 BW hB5 hC5 z5 hzW;go_loopw [48] (fun t48 wr=>InR w6 wA.heap.size w.heap.size acc (Bp d) t48 wr) (fun t48 _=>Dg d.kd-(intOf t48).toNat)
    case atStart=>exact st.out
    case round=>
     clear st;obtain ⟨i,hi,rfl,hBi,hCi,hKi⟩:=hrel;obtain ⟨w7,rfl⟩:=nmE (wr:World);rw [hfl.out] at hi;by_cases hil:i<Dg d.kd
     ·obtain ⟨x,f,hxi,hex,hff⟩:=hfa.out i (by rw [hfl.out];exact hil)
      have hC7:=hC6.out.trans hCi;have hEw7:Ext w w7:=hC7.ext w (hE1.out.trans hxA.out) fun k hk hs=>by rcases hs with rfl|hs<;>omega
      have hz7:=mK (hKi _ _ _ _ hb5.out (by decide) z6.out);obtain ⟨w8,hw8⟩:=nmE ((w7.alloc (.cells #[.bool false,.slice none 0 0,.bool false,.slice none 0 0] 54)).setRow w7.heap.size #[.bool f.b1,.slice f.a1 f.n1 f.c1,.bool f.b2,.slice f.a2 f.n2 f.c2]);have hE8:Ext w7 w8:=by rw [hw8];exact ((xR w7).al _).row (nR _) _
      have z8:=mK (show w8.heap[w7.heap.size]? = some (.cells #[.bool f.b1,.slice f.a1 f.n1 f.c1,.bool f.b2,.slice f.a2 f.n2 f.c2] 54 (0,0)) by rw [hw8];exact setRow_heap _ _ _ _ _ _ (heap_alloc_new _ _));have hxm:x∈Bp d:=by rw [←hxi];exact List.getElem_mem _
      have hxn:=hfo.out x hxm;have hDg:=mK (Wa (.agg #[.bool f.b1,.slice f.a1 f.n1 f.c1,.bool f.b2,.slice f.a2 f.n2 f.c2]) x w8 (nT hxn (by decide)) ((hff w7 (hFR.out w7 hC7)).ext hE8) (hT.out _ (hEw7.trans hE8)));have hrl:=Ci hxn;have hLx:=mK (show ¬9223372036854775807<1+(Ar x).length by omega);have htl:=Ij ((Bp d).take i) fun y hy=>hfo.out y (List.mem_of_mem_take hy)
      have htk:Ds ((Bp d).take (i+1))=Ds ((Bp d).take i)++(32::Ar x):=by
       rw [List.take_succ_eq_append_getElem (by rw [hfl.out];exact hil),hxi];simp [Ds]
      have htl2:(Ds ((Bp d).take i)).length≤2*131078:=nT htl (Nat.mul_le_mul_right _ (by rw [List.length_take];have:=Fm d.kd;omega));have hil':(i:Int)<((Dg d.kd:Nat):Int):=by omega
      have hsA:wA.heap.size≤w8.heap.size:=nT hC7.size hE8.size;have BX:=mK (fun W (e:Ext w8 W)=>bwrite2 wA.heap.size w.heap.size (byteCells (acc++Ds ((Bp d).take i))) (⟨#[32]⟩++⟨(Ar x).toArray⟩) W (hBi.ext (hE8.trans e)) (by rw [byteCells_length,List.length_append,ByteArray.size_append];show _+_+(1+(Ar x).toArray.size)≤_;rw [List.size_toArray];have:=hal.out;omega) (nT hsA e.size));replace hex:=mK hex;replace hBi:=mK hBi;replace hCi:=mK hCi;replace hKi:=mK hKi;replace hw8:=mK hw8;replace hE8:=mK hE8;replace htk:=mK htk;clear hff hxi hxm hxn hrl htl htl2 hC7 hEw7 hsA;have tok:Tok 30:=.mk _
      go_wp2_with (first
       | (replace tok:Tok 31:=nxT 30 tok;refine Ab (by rfl) 54 (.tmp 50) rfl w5.heap.size (i*4) ?zxa 54 _ #[.bool f.b1,.slice f.a1 f.n1 f.c1,.bool f.b2,.slice f.a2 f.n2 f.c2] (0,0) _ hz7.out hex.out Tryz.underlying54 rfl (by kernel_rfl) ?_;(case zxa=>rfl))
       | (replace tok:Tok 32:=nxT 31 tok;refine wpList_store_row rfl 54 (.tmp 10) (.tmp 51) rfl w7.heap.size #[.bool f.b1,.slice f.a1 f.n1 f.c1,.bool f.b2,.slice f.a2 f.n2 f.c2] rfl rfl 54 _ (heap_alloc_new _ _) (by kernel_rfl) rfl (by kernel_rfl) ?_;rw [←hw8.out])
       | (replace tok:Tok 33:=nxT 32 tok;refine wpList_load_row (by rfl) 54 (.tmp 10) rfl w7.heap.size rfl 54 #[.bool f.b1,.slice f.a1 f.n1 f.c1,.bool f.b2,.slice f.a2 f.n2 f.c2] (0,0) _ z8.out Tryz.underlying54 rfl (by kernel_rfl) ?_)
       | (replace tok:Tok 34:=nxT 33 tok;go_at_call 113;refine hDg.out.mono ?_;rintro e w9 ⟨rfl,hx9⟩;(have hLx2:=hLx.out);(have BY:=mK (BX.out w9 hx9));replace hx9:=mK hx9)
       | (replace tok:Tok 35:=nxT 34 tok;go_at_call 111;refine BY.out.mono ?_;rintro e w10 ⟨rfl,hB10,hC10,hK10⟩;replace hB10:=mK hB10;replace hC10:=mK hC10;replace hK10:=mK hK10))
      refine ⟨⟨i+1,by rw [hfl.out];omega,by go_num,?_,hCi.out.trans ((Chg.of_ext (hE8.out.trans hx9.out) _).trans hC10.out),hKi.out.trans ((Keeps.ext (hE8.out.trans hx9.out)).trans hK10.out)⟩,by simp [intOf];omega⟩;have hb:=hB10.out;rw [Aee,Nb,List.append_assoc,←htk.out] at hb;exact hb
     ·have hin:i=(Bp d).length:=by rw [hfl.out];omega
      subst hin;rw [List.take_length] at hBi;have hC7:=hC6.out.trans hCi;have htl:=Ij (Bp d) hfo.out;rw [hfl.out] at htl;have htl2:(Ds (Bp d)).length≤2*131078:=nT htl (Nat.mul_le_mul_right _ (Fm d.kd));have BN:=mK (bwrite2 wA.heap.size w.heap.size (byteCells (acc++Ds (Bp d))) ⟨#[10]⟩ w7 hBi (by rw [byteCells_length,List.length_append];show _+_+1≤_;have:=hal.out;omega) hC7.size);have hii:((Bp d).length:Int)=((Dg d.kd:Nat):Int):=by rw [hfl.out]
      replace hii:=mK hii;replace hC7:=mK hC7;rw [hfl.out];clear hBi hCi hKi hi hil htl htl2;have tok:Tok 40:=.mk _;go_wp2_with (replace tok:Tok 41:=nxT 40 tok;go_at_call 111;refine BN.out.mono ?_;rintro e w8 ⟨rfl,hB8,hC8,hK8⟩;replace hB8:=mK hB8;replace hC8:=mK (hC7.out.trans hC8);clear hK8);refine ⟨⟨k+1,by omega,by go_num,?_,hC8.out⟩,by simp [intOf];omega⟩;have hb:=hB8.out;rw [show Lib.strCells ⟨#[10]⟩=byteCells [10] by rw [Lib.strCells_eq],Nb,hacc.out] at hb
      have he:Bd ((os.take (k+1)).map (·.1))=TT++Hs d++Ds (Bp d)++[10]:=by
       rw [List.take_succ_eq_append_getElem hlt,hdv.out,List.map_append];have:Bd ((os.take k).map (·.1)++[d])=Bd ((os.take k).map (·.1))++Qg d:=by simp [Bd]
       show Bd ((os.take k).map (·.1)++[d])=_
       rw [this,hTT.out];simp [Qg]
      rw [he];exact hb
  ·have hkn:k=os.length:=by omega
   subst hkn;rw [List.take_length,hmap.out] at hB;have BL:=mK (Tryz.Builder_Len w.heap.size w.heap.size _ w2 hB.is);have BS:=mK (Tryz.Builder_String_any w.heap.size w.heap.size (Bd (es.map (·.1))) w2 hB.is hEw.size);generalize hTT:Bd (es.map (·.1))=TT at *;have hbl:(byteCells TT).length=TT.length:=byteCells_length _;rw [hbl] at BL;replace hEw:=mK hEw;replace hTT:=mK hTT;clear hbl hB hch hk;by_cases hbig:TT.length≤65536
   ·have hb1:¬((65536:Int)<(TT.length:Int)):=by omega
    have hqq:=mK (fun w' (e:Ext w w')=>(show Yg w es (.returned (.tuple #[.string ⟨TT.toArray⟩,.int .i64 0])) w' from ⟨by rw [hTT.out,if_pos hbig],e⟩));clear hbig;have tok:Tok 50:=.mk _
    go_wp2_with (first
     | (replace tok:Tok 51:=nxT 50 tok;go_at_call 114;refine BL.out.mono ?_;rintro e w8 ⟨rfl,rfl⟩)
     | (replace tok:Tok 52:=nxT 51 tok;go_at_call 115;refine BS.out.mono ?_;rintro e w9 ⟨rfl,hx9⟩;replace hx9:=mK hx9))
    go_ret2;exact hqq.out _ (Below.trans hEw.out hx9.out)
   ·have hb1:((65536:Int)<(TT.length:Int)):=by omega
    have hqq:=mK (fun w' (e:Ext w w')=>(show Yg w es (.returned (.tuple #[.string ⟨#[]⟩,.int .i64 4])) w' from ⟨by rw [hTT.out,if_neg hbig],e⟩));clear hbig;have tok:Tok 50:=.mk _;go_wp2_with (replace tok:Tok 51:=nxT 50 tok;go_at_call 114;refine BL.out.mono ?_;rintro e w8 ⟨rfl,rfl⟩);go_ret2;exact hqq.out _ hEw.out
end Go.Proofs.YteogdoglboddhaaGreatDoor
namespace Go.Proofs.YteogdoglboddhaaGreatDoor
set_option maxRecDepth 100000
open Go Go.RowKit Go.Proofs
theorem Sj {s:ByteArray}:∀ {es:List (PD×Value)} {x:PD×Value},Rising es→Ay s es=some x→es[Bk s es]? = some x
 | [],_,_,hf=>by cases hf
 | y::r,x,hr,hf=>by
  obtain ⟨h1,h2⟩:=List.pairwise_cons.1 hr
  unfold Ay at hf
  rw [List.find?_cons] at hf
  cases hn:Bb s y with
  | true=>
   rw [hn] at hf
   cases hf
   have e:y.1.nm.data.toList=s.data.toList:=by
    unfold Bb at hn;simpa using hn
   have hb:befN s y=false:=by
    unfold befN;rw [e];exact WideAt.bytes_irrefl _
   unfold Bk;rw [List.takeWhile_cons_of_neg (by rw [hb];simp)];rfl
  | false=>
   rw [hn] at hf;have ih:=Sj h2 hf;have hx:Bb s x=true:=List.find?_some hf;have hm:x∈r:=List.mem_of_find?_eq_some hf
   have e2:x.1.nm.data.toList=s.data.toList:=by
    unfold Bb at hx;simpa using hx
   have hb:befN s y=true:=by
    unfold befN;rw [←e2];exact h1 x hm
   unfold Bk;rw [List.takeWhile_cons_of_pos hb,List.length_cons,List.getElem?_cons_succ];exact ih
theorem Ahf (s:ByteArray)(x:PD×Value)(l:Value)(es:List (PD×Value))(w:World)(h:RefC w l es)(hf:Ay s es=some x) :
  Calls Tryz.prog 21 #[.agg #[.bool false,l],.string s] w fun e w'=>e=.returned (.tuple #[x.2,.bool true])∧Ext w w':=by
 rcases h.shape with ⟨-,rfl⟩|⟨g,c,rest,rfl,hc1,hc2,hr⟩
 ·cases hf
 obtain ⟨wb,hwb⟩:=nmE ((w.alloc (.cells #[.bool false,.slice (some ⟨g,0,none⟩) es.length c] 28)).alloc (.cells #[.string ⟨#[]⟩,.int .u8 0,.bool false,.slice none 0 0,.bool false,.slice none 0 0,.bool false,.slice none 0 0,.bool false,.slice none 0 0,.int .i64 0] 58));have hE:=aLe2 hwb;have zC:=mK (aL20 hwb);have zR:=mK (aL21 hwb);have hL:=fun W (e:Ext w W)=>Fz s (.slice (some ⟨g,0,none⟩) es.length c) es W (h.ext e);rw [hf] at hL;have hge:=Sj h.ris hf;generalize Bk s es=i at *;obtain ⟨hil,hie⟩:=List.getElem?_eq_some_iff.1 hge;obtain ⟨d,v⟩:=x;obtain ⟨p,q,e0,-,-⟩:=(h.part _ (List.mem_of_find?_eq_some hf)).fv;replace e0:v=.agg #[.string d.nm,.int .u8 d.kd,.bool p.b1,.slice p.a1 p.n1 p.c1,.bool p.b2,.slice p.a2 p.n2 p.c2,.bool q.b1,.slice q.a1 q.n1 q.c1,.bool q.b2,.slice q.a2 q.n2 q.c2,.int .i64 d.co]:=e0;subst e0;have hx:=mK (Cr h.allV hil rest (sub:=#[.string d.nm,.int .u8 d.kd,.bool p.b1,.slice p.a1 p.n1 p.c1,.bool p.b2,.slice p.a2 p.n2 p.c2,.bool q.b1,.slice q.a1 q.n1 q.c1,.bool q.b2,.slice q.a2 q.n2 q.c2,.int .i64 d.co]) (by rw [hie]));have hfew:=h.few;replace hL:=mK hL;replace hE:=mK hE;replace hwb:=mK hwb;replace hr:=mK hr;clear h hf hge hie;have hl':(es.length:Int)≤64:=by omega
 have hcI:(c:Int)≤9223372036854775807:=by unfold maxLen at hc2;omega
 have hi':(i:Int)+1≤(es.length:Int):=by omega
 replace hc2:=mK hc2;go_enter Tryz.func21,Tryz.ntmps21;have tok:Tok 0:=.mk _
 go_wp2_with (first
  | (replace tok:Tok 1:=nxT 0 tok;rw [←hwb.out];refine wpList_load_row (by rfl) 28 (.tmp 2) rfl w.heap.size rfl 28 #[.bool false,.slice (some ⟨g,0,none⟩) es.length c] (0,0) _ zC.out Tryz.underlying28 rfl (by kernel_rfl) ?_)
  | (replace tok:Tok 2:=nxT 1 tok;go_at_call 88;refine (hL.out _ hE.out).mono ?_;rintro e w4 ⟨rfl,hE2⟩;replace hE2:=mK hE2;(have y1:=Aa (hE2.out.blk zC.out) 1);(have hr4:=mK ((hE.out.trans hE2.out).blk hr.out));(have zR4:=mK (hE2.out.blk zR.out)))
  | (replace tok:Tok 3:=nxT 2 tok;refine Ab (by rfl) 58 (.tmp 20) rfl g (i*11) ?zz 58 _ #[.string d.nm,.int .u8 d.kd,.bool p.b1,.slice p.a1 p.n1 p.c1,.bool p.b2,.slice p.a2 p.n2 p.c2,.bool q.b1,.slice q.a1 q.n1 q.c1,.bool q.b2,.slice q.a2 q.n2 q.c2,.int .i64 d.co] (0,0) _ hr4.out hx.out Tryz.underlying58 rfl (by kernel_rfl) ?_;(case zz=>rfl))
  | (replace tok:Tok 4:=nxT 3 tok;refine wpList_store_row rfl 58 (.tmp 4) (.tmp 21) rfl (w.heap.size+1) #[.string d.nm,.int .u8 d.kd,.bool p.b1,.slice p.a1 p.n1 p.c1,.bool p.b2,.slice p.a2 p.n2 p.c2,.bool q.b1,.slice q.a1 q.n1 q.c1,.bool q.b2,.slice q.a2 q.n2 q.c2,.int .i64 d.co] rfl rfl 58 _ zR4.out (by kernel_rfl) rfl (by kernel_rfl) ?_))
 exact bodyPost_ret (Ae rfl _ _ (w.heap.size+1) 58 #[.string d.nm,.int .u8 d.kd,.bool p.b1,.slice p.a1 p.n1 p.c1,.bool p.b2,.slice p.a2 p.n2 p.c2,.bool q.b1,.slice q.a1 q.n1 q.c1,.bool q.b2,.slice q.a2 q.n2 q.c2,.int .i64 d.co] _ _ rfl rfl (setRow_heap _ _ _ _ _ _ zR4.out) Tryz.underlying58 rfl (by kernel_rfl)) rfl ⟨rfl,(hE.out.trans hE2.out).row (Nat.le_succ _) _⟩
theorem Ahg (s:ByteArray)(l:Value)(es:List (PD×Value))(w:World)(h:RefC w l es)(hf:Ay s es=none) :
  Calls Tryz.prog 21 #[.agg #[.bool false,l],.string s] w fun e w'=>e=.returned (.tuple #[.agg #[.string ⟨#[]⟩,.int .u8 0,.bool false,.slice none 0 0,.bool false,.slice none 0 0,.bool false,.slice none 0 0,.bool false,.slice none 0 0,.int .i64 0],.bool false])∧Ext w w':=by
 obtain ⟨a,c,rfl,-⟩:=h.slice;obtain ⟨wb,hwb⟩:=nmE ((w.alloc (.cells #[.bool false,.slice a es.length c] 28)).alloc (.cells #[.string ⟨#[]⟩,.int .u8 0,.bool false,.slice none 0 0,.bool false,.slice none 0 0,.bool false,.slice none 0 0,.bool false,.slice none 0 0,.int .i64 0] 58));have hE:=aLe2 hwb;have zC:=mK (aL20 hwb);have zR:=mK (aL21 hwb);have hL:=fun W (e:Ext w W)=>Fz s (.slice a es.length c) es W (h.ext e);rw [hf] at hL;generalize Bk s es=i at *;replace hL:=mK hL;replace hE:=mK hE;replace hwb:=mK hwb;clear h hf;go_enter Tryz.func21,Tryz.ntmps21;have tok:Tok 0:=.mk _
 go_wp2_with (first
  | (replace tok:Tok 1:=nxT 0 tok;rw [←hwb.out];refine wpList_load_row (by rfl) 28 (.tmp 2) rfl w.heap.size rfl 28 #[.bool false,.slice a es.length c] (0,0) _ zC.out Tryz.underlying28 rfl (by kernel_rfl) ?_)
  | (replace tok:Tok 2:=nxT 1 tok;go_at_call 88;refine (hL.out _ hE.out).mono ?_;rintro e w4 ⟨rfl,hE2⟩;replace hE2:=mK hE2;(have zR4:=mK (hE2.out.blk zR.out)))
  | (replace tok:Tok 3:=nxT 2 tok;refine wpList_store_row rfl 58 (.tmp 4) (.tmp 16) rfl (w.heap.size+1) #[.string ⟨#[]⟩,.int .u8 0,.bool false,.slice none 0 0,.bool false,.slice none 0 0,.bool false,.slice none 0 0,.bool false,.slice none 0 0,.int .i64 0] rfl rfl 58 _ zR4.out (by kernel_rfl) rfl (by kernel_rfl) ?_))
 exact bodyPost_ret (Ae rfl _ _ (w.heap.size+1) 58 #[.string ⟨#[]⟩,.int .u8 0,.bool false,.slice none 0 0,.bool false,.slice none 0 0,.bool false,.slice none 0 0,.bool false,.slice none 0 0,.int .i64 0] _ _ rfl rfl (setRow_heap _ _ _ _ _ _ zR4.out) Tryz.underlying58 rfl (by kernel_rfl)) rfl ⟨rfl,(hE.out.trans hE2.out).row (Nat.le_succ _) _⟩
theorem Ag2 {a:Int}(h:¬a<0):0≤a.sign:=by
 by_cases h0:a=0
 ·rw [h0];decide
 ·rw [Int.sign_eq_one_of_pos (by omega)];decide
theorem Aer (p q:FV)(x y:Rat)(w:World)(hx:nf x≤2048)(hy:nf y≤2048)(h1:FracR w (.agg #[.bool p.b1,.slice p.a1 p.n1 p.c1,.bool p.b2,.slice p.a2 p.n2 p.c2]) x)(h2:FracR w (.agg #[.bool q.b1,.slice q.a1 q.n1 q.c1,.bool q.b2,.slice q.a2 q.n2 q.c2]) y)(hn:(x-y).num<0) :
  Calls Tryz.prog 108 #[.agg #[.bool p.b1,.slice p.a1 p.n1 p.c1,.bool p.b2,.slice p.a2 p.n2 p.c2],.agg #[.bool q.b1,.slice q.a1 q.n1 q.c1,.bool q.b2,.slice q.a2 q.n2 q.c2]] w fun e w'=>∃ v,e=.returned v∧FracR w' v (rabs (x-y))∧Ext w w':=by
 obtain ⟨w1,hw1⟩:=nmE (((w.alloc (.cells #[.bool p.b1,.slice p.a1 p.n1 p.c1,.bool p.b2,.slice p.a2 p.n2 p.c2] 54)).alloc (.cells #[.bool q.b1,.slice q.a1 q.n1 q.c1,.bool q.b2,.slice q.a2 q.n2 q.c2] 54)).alloc (.cells #[.bool false,.slice none 0 0,.bool false,.slice none 0 0] 54));have hE:=aLe3 hw1;have z0:=mK (aL30 hw1);have z1:=mK (aL31 hw1);have zR:=mK (aL32 hw1);have hsz:=mK (show w1.heap.size=w.heap.size+3 by rw [hw1];simp);have hM:=mK (Vx (.agg #[.bool p.b1,.slice p.a1 p.n1 p.c1,.bool p.b2,.slice p.a2 p.n2 p.c2]) (.agg #[.bool q.b1,.slice q.a1 q.n1 q.c1,.bool q.b2,.slice q.a2 q.n2 q.c2]) x y w1 (nT hx (by decide)) (nT hy (by decide)) (h1.ext hE) (h2.ext hE));have hnf:nf (x-y)≤67108864:=nT (Gx x y) (by omega);have hr:rabs (x-y) = -(x-y):=by unfold rabs;rw [if_pos hn]
 rw [hr];have hsg:(x-y).num.sign = -1:=Int.sign_eq_neg_one_of_neg hn;generalize x-y=z at *;have hS:=mK (fun (v:Value) (W:World) (e:FracR W v z)=>Kw v z W (nT hnf (by decide)) e);have hT:=mK (fun (v:Value) (W:World) (e:FracR W v z)=>Mf v z W hnf e);generalize z.num.sign=sg at *;subst hsg;replace hw1:=mK hw1;replace hE:=mK hE;clear h1 h2 hx hy hn hr hnf;go_enter Tryz.func108,Tryz.ntmps108;have tok:Tok 0:=.mk _
 go_wp2_with (first
  | (replace tok:Tok 1:=nxT 0 tok;rw [←hw1.out];refine wpList_load_row (by rfl) 54 (.tmp 2) rfl w.heap.size rfl 54 #[.bool p.b1,.slice p.a1 p.n1 p.c1,.bool p.b2,.slice p.a2 p.n2 p.c2] (0,0) _ z0.out Tryz.underlying54 rfl (by kernel_rfl) ?_)
  | (replace tok:Tok 2:=nxT 1 tok;refine wpList_load_row (by rfl) 54 (.tmp 3) rfl (w.heap.size+1) rfl 54 #[.bool q.b1,.slice q.a1 q.n1 q.c1,.bool q.b2,.slice q.a2 q.n2 q.c2] (0,0) _ z1.out Tryz.underlying54 rfl (by kernel_rfl) ?_)
  | (replace tok:Tok 3:=nxT 2 tok;go_at_call 177;refine hM.out.mono ?_;rintro e w2 ⟨v2,rfl,hv2,hE2⟩;(obtain ⟨r,rfl⟩:=hv2.fv);(obtain ⟨w3,hw3⟩:=nmE ((w2.alloc (.cells #[.bool false,.slice none 0 0,.bool false,.slice none 0 0] 54)).setRow w2.heap.size #[.bool r.b1,.slice r.a1 r.n1 r.c1,.bool r.b2,.slice r.a2 r.n2 r.c2]));(have hE3:Ext w2 w3:=by rw [hw3];exact ((xR w2).al _).row (nR _) _);(have z3:=mK (show w3.heap[w2.heap.size]? = some (.cells #[.bool r.b1,.slice r.a1 r.n1 r.c1,.bool r.b2,.slice r.a2 r.n2 r.c2] 54 (0,0)) by rw [hw3];exact setRow_heap _ _ _ _ _ _ (heap_alloc_new _ _)));replace hv2:=mK (hv2.ext hE3);replace hE2:=mK (hE2.trans hE3);replace hw3:=mK hw3;clear hE3)
  | (replace tok:Tok 4:=nxT 3 tok;refine wpList_store_row rfl 54 (.tmp 5) (.tmp 8) rfl w2.heap.size #[.bool r.b1,.slice r.a1 r.n1 r.c1,.bool r.b2,.slice r.a2 r.n2 r.c2] rfl rfl 54 _ (heap_alloc_new _ _) (by kernel_rfl) rfl (by kernel_rfl) ?_;rw [←hw3.out])
  | (replace tok:Tok 5:=nxT 4 tok;refine wpList_load_row (by rfl) 54 (.tmp 5) rfl w2.heap.size rfl 54 #[.bool r.b1,.slice r.a1 r.n1 r.c1,.bool r.b2,.slice r.a2 r.n2 r.c2] (0,0) _ z3.out Tryz.underlying54 rfl (by kernel_rfl) ?_)
  | (replace tok:Tok 6:=nxT 5 tok;go_at_call 178;refine (hS.out _ _ hv2.out).mono ?_;rintro e w4 ⟨rfl,hE4⟩;replace hv2:=mK (hv2.out.ext hE4);replace z3:=mK (hE4.blk z3.out);replace hE2:=mK (hE2.out.trans hE4);clear hE4)
  | (replace tok:Tok 7:=nxT 6 tok;refine wpList_load_row (by rfl) 54 (.tmp 5) rfl w2.heap.size rfl 54 #[.bool r.b1,.slice r.a1 r.n1 r.c1,.bool r.b2,.slice r.a2 r.n2 r.c2] (0,0) _ z3.out Tryz.underlying54 rfl (by kernel_rfl) ?_)
  | (replace tok:Tok 8:=nxT 7 tok;go_at_call 179;refine (hT.out _ _ hv2.out).mono ?_;rintro e w5 ⟨v5,rfl,hv5,hE5⟩;(obtain ⟨t,rfl⟩:=hv5.fv);replace hv5:=mK hv5;replace hE2:=mK (hE2.out.trans hE5);clear hE5;have zR5:=mK (hE2.out.blk zR.out))
  | (replace tok:Tok 9:=nxT 8 tok;refine wpList_store_row rfl 54 (.tmp 4) (.tmp 13) rfl (w.heap.size+2) #[.bool t.b1,.slice t.a1 t.n1 t.c1,.bool t.b2,.slice t.a2 t.n2 t.c2] rfl rfl 54 _ zR5.out (by kernel_rfl) rfl (by kernel_rfl) ?_))
 exact bodyPost_ret (results_cell_row rfl _ _ (w.heap.size+2) 54 #[.bool t.b1,.slice t.a1 t.n1 t.c1,.bool t.b2,.slice t.a2 t.n2 t.c2] (0,0) _ rfl (setRow_heap _ _ _ _ _ _ zR5.out) Tryz.underlying54 rfl (by kernel_rfl)) rfl ⟨_,rfl,hv5.out.flat zR5.out (by simp [Au]) #[.bool t.b1,.slice t.a1 t.n1 t.c1,.bool t.b2,.slice t.a2 t.n2 t.c2],(hE.out.trans hE2.out).row (by omega) _⟩
theorem Aeq (p q:FV)(x y:Rat)(w:World)(hx:nf x≤2048)(hy:nf y≤2048)(h1:FracR w (.agg #[.bool p.b1,.slice p.a1 p.n1 p.c1,.bool p.b2,.slice p.a2 p.n2 p.c2]) x)(h2:FracR w (.agg #[.bool q.b1,.slice q.a1 q.n1 q.c1,.bool q.b2,.slice q.a2 q.n2 q.c2]) y)(hn:¬(x-y).num<0) :
  Calls Tryz.prog 108 #[.agg #[.bool p.b1,.slice p.a1 p.n1 p.c1,.bool p.b2,.slice p.a2 p.n2 p.c2],.agg #[.bool q.b1,.slice q.a1 q.n1 q.c1,.bool q.b2,.slice q.a2 q.n2 q.c2]] w fun e w'=>∃ v,e=.returned v∧FracR w' v (rabs (x-y))∧Ext w w':=by
 obtain ⟨w1,hw1⟩:=nmE (((w.alloc (.cells #[.bool p.b1,.slice p.a1 p.n1 p.c1,.bool p.b2,.slice p.a2 p.n2 p.c2] 54)).alloc (.cells #[.bool q.b1,.slice q.a1 q.n1 q.c1,.bool q.b2,.slice q.a2 q.n2 q.c2] 54)).alloc (.cells #[.bool false,.slice none 0 0,.bool false,.slice none 0 0] 54));have hE:=aLe3 hw1;have z0:=mK (aL30 hw1);have z1:=mK (aL31 hw1);have zR:=mK (aL32 hw1);have hsz:=mK (show w1.heap.size=w.heap.size+3 by rw [hw1];simp);have hM:=mK (Vx (.agg #[.bool p.b1,.slice p.a1 p.n1 p.c1,.bool p.b2,.slice p.a2 p.n2 p.c2]) (.agg #[.bool q.b1,.slice q.a1 q.n1 q.c1,.bool q.b2,.slice q.a2 q.n2 q.c2]) x y w1 (nT hx (by decide)) (nT hy (by decide)) (h1.ext hE) (h2.ext hE));have hnf:nf (x-y)≤67108864:=nT (Gx x y) (by omega);have hr:rabs (x-y)=x-y:=by unfold rabs;rw [if_neg hn]
 rw [hr];have hsg:0≤(x-y).num.sign:=Ag2 hn;generalize x-y=z at *;have hS:=mK (fun (v:Value) (W:World) (e:FracR W v z)=>Kw v z W (nT hnf (by decide)) e);have hT:=mK (fun (v:Value) (W:World) (e:FracR W v z)=>Mf v z W hnf e);generalize z.num.sign=sg at *;skip;replace hw1:=mK hw1;replace hE:=mK hE;clear h1 h2 hx hy hn hr hnf;go_enter Tryz.func108,Tryz.ntmps108;have tok:Tok 0:=.mk _
 go_wp2_with (first
  | (replace tok:Tok 1:=nxT 0 tok;rw [←hw1.out];refine wpList_load_row (by rfl) 54 (.tmp 2) rfl w.heap.size rfl 54 #[.bool p.b1,.slice p.a1 p.n1 p.c1,.bool p.b2,.slice p.a2 p.n2 p.c2] (0,0) _ z0.out Tryz.underlying54 rfl (by kernel_rfl) ?_)
  | (replace tok:Tok 2:=nxT 1 tok;refine wpList_load_row (by rfl) 54 (.tmp 3) rfl (w.heap.size+1) rfl 54 #[.bool q.b1,.slice q.a1 q.n1 q.c1,.bool q.b2,.slice q.a2 q.n2 q.c2] (0,0) _ z1.out Tryz.underlying54 rfl (by kernel_rfl) ?_)
  | (replace tok:Tok 3:=nxT 2 tok;go_at_call 177;refine hM.out.mono ?_;rintro e w2 ⟨v2,rfl,hv2,hE2⟩;(obtain ⟨r,rfl⟩:=hv2.fv);(obtain ⟨w3,hw3⟩:=nmE ((w2.alloc (.cells #[.bool false,.slice none 0 0,.bool false,.slice none 0 0] 54)).setRow w2.heap.size #[.bool r.b1,.slice r.a1 r.n1 r.c1,.bool r.b2,.slice r.a2 r.n2 r.c2]));(have hE3:Ext w2 w3:=by rw [hw3];exact ((xR w2).al _).row (nR _) _);(have z3:=mK (show w3.heap[w2.heap.size]? = some (.cells #[.bool r.b1,.slice r.a1 r.n1 r.c1,.bool r.b2,.slice r.a2 r.n2 r.c2] 54 (0,0)) by rw [hw3];exact setRow_heap _ _ _ _ _ _ (heap_alloc_new _ _)));replace hv2:=mK (hv2.ext hE3);replace hE2:=mK (hE2.trans hE3);replace hw3:=mK hw3;clear hE3)
  | (replace tok:Tok 4:=nxT 3 tok;refine wpList_store_row rfl 54 (.tmp 5) (.tmp 8) rfl w2.heap.size #[.bool r.b1,.slice r.a1 r.n1 r.c1,.bool r.b2,.slice r.a2 r.n2 r.c2] rfl rfl 54 _ (heap_alloc_new _ _) (by kernel_rfl) rfl (by kernel_rfl) ?_;rw [←hw3.out])
  | (replace tok:Tok 5:=nxT 4 tok;refine wpList_load_row (by rfl) 54 (.tmp 5) rfl w2.heap.size rfl 54 #[.bool r.b1,.slice r.a1 r.n1 r.c1,.bool r.b2,.slice r.a2 r.n2 r.c2] (0,0) _ z3.out Tryz.underlying54 rfl (by kernel_rfl) ?_)
  | (replace tok:Tok 6:=nxT 5 tok;go_at_call 178;refine (hS.out _ _ hv2.out).mono ?_;rintro e w4 ⟨rfl,hE4⟩;replace hv2:=mK (hv2.out.ext hE4);replace z3:=mK (hE4.blk z3.out);replace hE2:=mK (hE2.out.trans hE4);clear hE4)
  | (replace tok:Tok 7:=nxT 6 tok;refine wpList_load_row (by rfl) 54 (.tmp 5) rfl w2.heap.size rfl 54 #[.bool r.b1,.slice r.a1 r.n1 r.c1,.bool r.b2,.slice r.a2 r.n2 r.c2] (0,0) _ z3.out Tryz.underlying54 rfl (by kernel_rfl) ?_;have zR5:=mK (hE2.out.blk zR.out))
  | (replace tok:Tok 8:=nxT 7 tok;refine wpList_store_row rfl 54 (.tmp 4) (.tmp 14) rfl (w.heap.size+2) #[.bool r.b1,.slice r.a1 r.n1 r.c1,.bool r.b2,.slice r.a2 r.n2 r.c2] rfl rfl 54 _ zR5.out (by kernel_rfl) rfl (by kernel_rfl) ?_))
 exact bodyPost_ret (results_cell_row rfl _ _ (w.heap.size+2) 54 #[.bool r.b1,.slice r.a1 r.n1 r.c1,.bool r.b2,.slice r.a2 r.n2 r.c2] (0,0) _ rfl (setRow_heap _ _ _ _ _ _ zR5.out) Tryz.underlying54 rfl (by kernel_rfl)) rfl ⟨_,rfl,hv2.out.flat zR5.out (by simp [Au]) #[.bool r.b1,.slice r.a1 r.n1 r.c1,.bool r.b2,.slice r.a2 r.n2 r.c2],(hE.out.trans hE2.out).row (by omega) _⟩
theorem Aes (p q:FV)(x y:Rat)(w:World)(hx:nf x≤2048)(hy:nf y≤2048)(h1:FracR w (.agg #[.bool p.b1,.slice p.a1 p.n1 p.c1,.bool p.b2,.slice p.a2 p.n2 p.c2]) x)(h2:FracR w (.agg #[.bool q.b1,.slice q.a1 q.n1 q.c1,.bool q.b2,.slice q.a2 q.n2 q.c2]) y) :
  Calls Tryz.prog 108 #[.agg #[.bool p.b1,.slice p.a1 p.n1 p.c1,.bool p.b2,.slice p.a2 p.n2 p.c2],.agg #[.bool q.b1,.slice q.a1 q.n1 q.c1,.bool q.b2,.slice q.a2 q.n2 q.c2]] w fun e w'=>∃ v,e=.returned v∧FracR w' v (rabs (x-y))∧Ext w w':=by
 by_cases hn:(x-y).num<0
 ·exact Aer p q x y w hx hy h1 h2 hn
 ·exact Aeq p q x y w hx hy h1 h2 hn
theorem Aci (pw:FV)(a:Option Addr)(n c:Nat)(w:World)(h1:AnyF w (.agg #[.bool pw.b1,.slice pw.a1 pw.n1 pw.c1,.bool pw.b2,.slice pw.a2 pw.n2 pw.c2]) none) :
  Calls Tryz.prog 25 #[.agg #[.bool false,.slice a n c],.agg #[.bool pw.b1,.slice pw.a1 pw.n1 pw.c1,.bool pw.b2,.slice pw.a2 pw.n2 pw.c2]] w fun e w'=>e=.returned (.tuple #[.agg #[.string ⟨#[]⟩,.int .u8 0,.bool false,.slice none 0 0,.bool false,.slice none 0 0,.bool false,.slice none 0 0,.bool false,.slice none 0 0,.int .i64 0],.int .i64 1])∧Ext w w':=by
 obtain ⟨wb,hwb⟩:=nmE (((w.alloc (.cells #[.bool false,.slice a n c] 28)).alloc (.cells #[.bool pw.b1,.slice pw.a1 pw.n1 pw.c1,.bool pw.b2,.slice pw.a2 pw.n2 pw.c2] 54)).alloc (.cells #[.string ⟨#[]⟩,.int .u8 0,.bool false,.slice none 0 0,.bool false,.slice none 0 0,.bool false,.slice none 0 0,.bool false,.slice none 0 0,.int .i64 0] 58));have hE:=aLe3 hwb;have zC:=mK (aL30 hwb);have zP:=mK (aL31 hwb);have zR:=mK (aL32 hwb);have hC:=mK (Pp (.agg #[.bool pw.b1,.slice pw.a1 pw.n1 pw.c1,.bool pw.b2,.slice pw.a2 pw.n2 pw.c2]) none wb (h1.ext hE));replace hE:=mK hE;replace hwb:=mK hwb;have y0:=Aa zC.out 0;clear h1;go_enter Tryz.func25,Tryz.ntmps25;have tok:Tok 0:=.mk _
 go_wp2_with (first
  | (replace tok:Tok 1:=nxT 0 tok;rw [←hwb.out];refine wpList_load_row (by rfl) 54 (.tmp 3) rfl (w.heap.size+1) rfl 54 #[.bool pw.b1,.slice pw.a1 pw.n1 pw.c1,.bool pw.b2,.slice pw.a2 pw.n2 pw.c2] (0,0) _ zP.out Tryz.underlying54 rfl (by kernel_rfl) ?_)
  | (replace tok:Tok 2:=nxT 1 tok;go_at_call 106;refine hC.out.mono ?_;rintro e w2 ⟨rfl,hE2⟩;clear y0;replace hE2:=mK hE2;(have zR2:=mK (hE2.out.blk zR.out)))
  | (replace tok:Tok 3:=nxT 2 tok;refine wpList_store_row rfl 58 (.tmp 4) (.tmp 15) rfl (w.heap.size+2) #[.string ⟨#[]⟩,.int .u8 0,.bool false,.slice none 0 0,.bool false,.slice none 0 0,.bool false,.slice none 0 0,.bool false,.slice none 0 0,.int .i64 0] rfl rfl 58 _ zR2.out (by kernel_rfl) rfl (by kernel_rfl) ?_))
 exact bodyPost_ret (Ae rfl _ _ (w.heap.size+2) 58 #[.string ⟨#[]⟩,.int .u8 0,.bool false,.slice none 0 0,.bool false,.slice none 0 0,.bool false,.slice none 0 0,.bool false,.slice none 0 0,.int .i64 0] _ _ rfl rfl (setRow_heap _ _ _ _ _ _ zR2.out) Tryz.underlying58 rfl (by kernel_rfl)) rfl ⟨rfl,(hE.out.trans hE2.out).row (by omega) _⟩
theorem Tt (kd:Int)(w:World)(h0:1≤kd)(h5:kd≤5):Calls Tryz.prog 184 #[.int .u8 kd] w fun e w'=>e=.returned (.tuple #[.string ⟨(Dl kd).toArray⟩,.int .i64 (Dg kd)])∧w=w':=by
 rcases (show kd=1∨kd=2∨kd=3∨kd=4∨kd=5 by omega) with rfl|rfl|rfl|rfl|rfl
 ·go_enter Tryz.func184,Tryz.ntmps184
  go_wp2_with fail;go_ret2;exact ⟨rfl,rfl⟩
 ·go_enter Tryz.func184,Tryz.ntmps184
  go_wp2_with fail;go_ret2;exact ⟨rfl,rfl⟩
 ·go_enter Tryz.func184,Tryz.ntmps184
  go_wp2_with fail;go_ret2;exact ⟨rfl,rfl⟩
 ·go_enter Tryz.func184,Tryz.ntmps184
  go_wp2_with fail;go_ret2;exact ⟨rfl,rfl⟩
 ·go_enter Tryz.func184,Tryz.ntmps184
  go_wp2_with fail;go_ret2;exact ⟨rfl,rfl⟩
end Go.Proofs.YteogdoglboddhaaGreatDoor
namespace Go.Proofs.YteogdoglboddhaaGreatDoor
set_option maxRecDepth 100000
open Go Go.RowKit Go.Proofs Go.Lib
def low9 (ps:List Nat):List UInt8:=ps.flatMap fun p=>(nine p).reverse
theorem Mm (p:Nat)(ps:List Nat):low9 (p::ps)=(nine p).reverse++low9 ps:=List.flatMap_cons
theorem Wt:∀ ps:List Nat,ps≠[]→(∀ p∈ps,p<1000000000)→∃ k,low9 ps=(txt9 ps).reverse++List.replicate k 48
 | [],h,_=>absurd rfl h
 | [p],_,h=>by
  refine ⟨9-nDigits p,?_⟩
  rw [Mm,Ui (h p (by simp)),List.reverse_append,List.reverse_replicate]
  simp [low9,txt9]
 | p::q::r,_,h=>by
  obtain ⟨k,e⟩:=Wt (q::r) (by simp) (fun x hx=>h x (List.mem_cons_of_mem _ hx))
  refine ⟨k,?_⟩
  rw [Mm,e,Lz p (by simp),List.reverse_append,List.append_assoc]
theorem Qc (ps:List Nat):(low9 ps).length=9*ps.length:=by
 induction ps with
 | nil=>rfl
 | cons p r ih=>
  rw [Mm,List.length_append,ih,List.length_reverse,List.length_cons];simp [nine];omega
theorem Xs (n:Nat)(h:0<n):∃ x r,decDigits n=x::r∧x≠48:=by
 induction n using Nat.strongRecOn with
 | _ n ih=>
  by_cases h10:n<10
  ·refine ⟨UInt8.ofNat (48+n),[],by rw [decDigits,dif_pos h10],fun e=>?_⟩
   have:=congrArg UInt8.toNat e;simp at this;omega
  ·obtain ⟨x,r,e,hx⟩:=ih (n/10) (by omega) (by omega)
   rw [decDigits,dif_neg h10,e];exact ⟨x,_,rfl,hx⟩
end Go.Proofs.YteogdoglboddhaaGreatDoor
