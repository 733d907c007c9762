/-
  The Book: the kind Limb. The Book: Apart, where limbs alone are kept; a Book of limbs, list by list. The Book: Int, Frac, Element, Part. A part's twin in a Book: its four lists are marked, lengthened and looked at. law01: SameFrac, SameElement, SamePart of whatever limbs: printed by tools/gen_samel.py. A region's load of a whole row, by the row's law: no program. (The walk's own load of 16 cells costs the kernel 14 s and 2 GB.) A row that is stored early or late. law25: asked, of a catalogue that is gone: printed by tools/gen_asked.py. bench.may, bench.Check of one element, catalog.may: printed by tools/gen_may.py. polestarref01: divide by more than one limb.
-/
import Derived.Test.YteogdoglboddhaaGreatDoorPAF
import Derived.Test.YteogdoglboddhaaGreatDoorPAE
import Derived.Test.YteogdoglboddhaaGreatDoorPAA
set_option maxHeartbeats 6400000
namespace Go.Proofs.YteogdoglboddhaaGreatDoor
set_option maxRecDepth 100000
open Go Go.RowKit Go.Proofs
def Ax (n:Int):Value:=.int .u32 (100000+n)
theorem Qa (n:Int)(w:World)(h0:0≤n)(h1:n≤1000000):Calls Tryz.prog 122 #[.int .i64 n] w fun e w'=>e=.returned (Ax n)∧w=w':=by
 go_enter Tryz.func122,Tryz.ntmps122;go_wp2_with fail;go_ret;exact ⟨rfl,rfl⟩
theorem Aft (n:Int)(w:World)(h0:0≤n)(h1:n≤1000000):Calls Tryz.prog 138 #[Ax n,.int .i64 n] w fun e w'=>e=.returned (.bool true)∧w=w':=by
 unfold Ax;go_enter Tryz.func138,Tryz.ntmps138;go_wp2_with fail;go_ret;exact ⟨by simp,rfl⟩
theorem Afv:(Tryz.prog.info? 136).map (fun i=>(i.zero,i.size,i.bytes))=some (some (.int .u32 0),1,4):=by kernel_rfl
theorem Ab4:Tryz.prog.underlying 50=some (.slice 136):=by kernel_rfl
theorem Qu (bk hb cap base:Nat)(es:List Ent)(w:World)(h:w.cell? ⟨bk,1,none⟩=some (.slice (some ⟨hb,0,none⟩) es.length cap))(h2:es.length≤1000000)
 (hH:Holds w hb es) (hL:Lists base 136 w es) (hD:Distinct es) (hb1:¬Blocks es bk) (hb2:¬Blocks es hb) (hn:∀ i (h:i<es.length),es[i].n≤1000000∧es[i].len≤281474976710656) :
 Calls Tryz.prog 35 #[.pointer (some ⟨bk,0,none⟩)] w fun e w'=>e=.returned (.tuple #[])∧Hd base 136 Ax w w' es es.length:=by
 have hst:=mK (Aae (mk:=Ax) hL);replace hb1:=mK hb1;replace hb2:=mK hb2;replace hH:=mK hH;replace hD:=mK hD;replace hn:=mK hn;replace hL:=mK hL;go_enter Tryz.func35,Tryz.ntmps35;go_wp2_with fail;go_loopw [2] (fun i wr=>∃ k:Nat,k≤es.length∧i=.int .i64 k∧Hd base 136 Ax w wr es k) (fun i _=>es.length-(intOf i).toNat)
 case atStart=>exact ⟨0,Nat.zero_le _,rfl,hst.out⟩
 case round=>
  obtain ⟨k,hk,rfl,hfi⟩:=hrel;have hbk:=hfi.1.cell h hb1.out;by_cases hlt:k<es.length
  ·obtain ⟨a1,⟨la,ln,lc,a2⟩,a3,-⟩:=(hH.out.chg hfi.1 hb2.out) k hlt
   obtain ⟨hn1,hn2⟩:=hn.out k hlt;obtain ⟨xs,hxs⟩:=hfi.2.2 k hlt;have hstep:=mK (fun o W=>Adn (W:=W) (o:=o) hfi hlt hD.out);replace hfi:=mK hfi;obtain ⟨a,c,hv,hc1,hc2,hc3⟩:=Jn hxs;obtain ⟨n,hne⟩:=nmE (es[k].n);obtain ⟨len,hle⟩:=nmE (es[k].len);rw [hv] at a1 hxs hstep;rw [←hle] at a1 hxs hstep hc1 hc2 hc3 hn2;rw [←hne] at a3 hstep hn1;replace hxs:=mK hxs;replace hv:=mK hv;clear hne hle;go_wp2_with fail;obtain ⟨W1,hW1⟩:=nmE (wr.alloc (.cells #[.slice a len c,.slice la ln lc,.int .i64 n] 135));have hx1:W1.ownsRow base 136 1 (.slice a len c) len xs:=by rw [hW1];exact hxs.out.alloc _
   have c0:W1.cell? ⟨wr.heap.size,0,none⟩=some (.slice a len c):=by rw [hW1];go_simp
   have c2:W1.cell? ⟨wr.heap.size,2,none⟩=some (.int .i64 n):=by rw [hW1];go_simp
   have hne:some wr.heap.size≠(Value.slice a len c).ownBlock:=fun e=>Nat.lt_irrefl _ (hxs.out.lt _ e.symm).2;rw [←hW1];replace hW1:=mK hW1;replace hxs:=mK hxs;generalize wr.heap.size=hh at *;replace hx1:=mK hx1;go_loopw [4] (fun j W2=>∃ q:Nat,q≤len∧j=.int .i64 q∧W1.grownBy W2 (Value.slice a len c).ownBlock∧W2.ownsRow base 136 1 (.slice a len c) len (part (Ax n) xs q)) (fun j _=>len-(intOf j).toNat)
   case atStart=>exact ⟨0,Nat.zero_le _,rfl,World.grownBy.refl _ _,by rw [Acu];exact hx1.out⟩
   case round=>
    obtain ⟨q,hq,rfl,hgr,how⟩:=hrel;have d0:=hgr.cell c0 hne;have d2:=hgr.cell c2 hne;clear c0 c2;by_cases hql:q<len
    ·obtain ⟨g,rfl⟩:=hc3 (by omega)
     go_wp2_with fail;have d0:=fun W (e:Ext wr W)=>e.cell d0;have d2:=fun W (e:Ext wr W)=>e.cell d2;have hmk:=fun w=>Qa n w (by omega) (by omega);apply Ad [.val _,.val _,.val _,.val _,.val _,.val _,.val _] (by kernel_rfl) (stable_vals _ (stable_vals _ (stable_vals _ (stable_vals _ (stable_vals _ (stable_vals _ (stable_vals _ trivial)))))));iterate 5 (refine ⟨fun W hW _=>by go_simp;exact ⟨xR _,rfl⟩,?_⟩)
     refine ⟨fun W hW _=>by go_simp;exact (hmk W).mono (by rintro e w' ⟨rfl,rfl⟩;exact ⟨rfl,xR _⟩),?_⟩;iterate 1 (refine ⟨fun W hW _=>by go_simp;exact ⟨xR _,rfl⟩,?_⟩)
     intro W hW _;have how':=Aw how hW
     obtain ⟨old,hold⟩:∃ old,W.cell? ⟨g,q,none⟩=some old:=by
      rw [how'.cellAt q (by omega),List.getElem?_eq_getElem (by rw [Wg _ _ _ (by omega)];omega)];exact ⟨_,rfl⟩
     obtain ⟨hs1,hs2⟩:=how'.stored q (Ax n);rw [Ae4 _ _ _ (by omega)] at hs1;have hgr':W1.grownBy (W.setCell ⟨g,q,none⟩ (Ax n)) (Value.slice (some ⟨g,0,none⟩) len c).ownBlock:=Fc hgr hW hs2;replace hs1:=mK hs1;replace hgr':=mK hgr';have hfz:=how'.frozenAt q;clear hs2 how how' hgr d0 d2 hmk;go_simp;unfold Ax at *;go_wp2_with fail;go_roundw
     case rel=>exact ⟨q+1,by omega,by go_num,hgr'.out,hs1.out⟩
     case measure=>simp [intOf]<;>omega
    ·obtain rfl:q=len:=by omega
     go_wp2_with fail;go_roundw
     case rel=>
      refine ⟨k+1,by omega,by go_num,hstep.out _ _ (by rw [←hW1.out];exact hgr) ?_⟩;rw [←hc2,Ae5] at how;rw [←hc2];exact how
     case measure=>simp [intOf]<;>omega
  ·go_wp2_with fail
   go_end0;obtain rfl:k=es.length:=by omega
   exact ⟨rfl,hfi⟩
theorem Qp (bk hb cap base:Nat)(es:List Ent)(w:World)(h:w.cell? ⟨bk,1,none⟩=some (.slice (some ⟨hb,0,none⟩) es.length cap))(h2:es.length≤1000000)
 (hH:Holds w hb es) (hM:Marked base 136 Ax w es es.length) (hD:Distinct es) (hb1:¬Blocks es bk) (hb2:¬Blocks es hb) (hb3:bk≠hb) (hb4:hb<w.heap.size) (hbs:base≤w.heap.size) (hn:∀ i (h:i<es.length),es[i].n≤1000000∧es[i].len≤1000000000) :
 Calls Tryz.prog 51 #[.pointer (some ⟨bk,0,none⟩)] w fun e w'=>e=.returned (.tuple #[])∧GrowI base 136 Ax w w' hb es es.length:=by
 have hst:=mK (Xc hM hH);have hBl:Hid (∀ g,Blocks es g→g<w.heap.size):=mK fun g ⟨i,hi,hg⟩=>((hM i hi hi).lt g hg).2;replace hb1:=mK hb1;replace hb2:=mK hb2;replace hb3:=mK hb3;replace hH:=mK hH;replace hD:=mK hD;replace hn:=mK hn;replace hM:=mK hM;go_enter Tryz.func51,Tryz.ntmps51;go_wp2_with fail;go_loopw [2] (fun i wr=>∃ k:Nat,k≤es.length∧i=.int .i64 k∧GrowI base 136 Ax w wr hb es k) (fun i _=>es.length-(intOf i).toNat)
 case atStart=>exact ⟨0,Nat.zero_le _,rfl,hst.out⟩
 case round=>
  obtain ⟨k,hk,rfl,hfi⟩:=hrel;have hbk:=hfi.1.cell h (fun e=>e.elim hb1.out hb3.out);by_cases hlt:k<es.length
  ·obtain ⟨a1,⟨la,ln,lc,a2⟩,a3,hfz⟩:=hfi.2.2.1 k hlt
   obtain ⟨hn1,hn2⟩:=hn.out k hlt;have hxs:=hfi.2.1 k hlt hlt;have hss:=hfi.1.size;have hstep:=mK (fun o W v=>Aac (W2:=W) (o:=o) (v:=v) hfi hlt hD.out hb4 hb2.out hBl.out);replace hfi:=mK hfi;obtain ⟨a,c,hv,hc1,hc2,hc3⟩:=Jn hxs;obtain ⟨n,hne⟩:=nmE (es[k].n);obtain ⟨len,hle⟩:=nmE (es[k].len);rw [hv] at a1 hxs hstep;rw [←hle] at a1 hxs hstep hc1 hc2 hc3 hn2 hv;rw [←hne] at a3 hstep hn1 hxs;replace hxs:=mK hxs;replace hv:=mK hv;clear hne hle hc2;go_wp2_with fail;obtain ⟨W1,hW1⟩:=nmE (wr.alloc (.cells #[.slice a len c,.slice la ln lc,.int .i64 n] 135));have hx1:W1.ownsRow base 136 1 (.slice a len c) len (List.replicate len (Ax n)):=by rw [hW1];exact hxs.out.alloc _
   have c2:W1.cell? ⟨wr.heap.size,2,none⟩=some (.int .i64 n):=by rw [hW1];go_simp
   have cbk:W1.cell? ⟨bk,1,none⟩=some (.slice (some ⟨hb,0,none⟩) es.length cap):=by rw [hW1];exact ((Chg.al wr _ (fun _=>False)).cell hbk (by simp))
   have clg:W1.cell? ⟨hb,k*3+1,none⟩=some (.slice la ln lc):=by rw [hW1];exact ((Chg.al wr _ (fun _=>False)).cell a2 (by simp))
   have clg0:=mK clg;have hfz:W1.frozen? ⟨hb,k*3+1,none⟩=false:=by rw [hW1,World.frozen?_of_block ((Chg.al wr _ (fun _=>False)).block hb (World.block_lt_of_cell? _ _ a2) (by simp))];exact hfz
   have hne:some wr.heap.size≠(Value.slice a len c).ownBlock:=fun e=>Nat.lt_irrefl _ (hxs.out.lt _ e.symm).2;have hne2:some bk≠(Value.slice a len c).ownBlock:=fun e=>hb1.out ⟨k,hlt,by rw [hv.out];exact e.symm⟩;have hne3:some hb≠(Value.slice a len c).ownBlock:=fun e=>hb2.out ⟨k,hlt,by rw [hv.out];exact e.symm⟩;have hlw:∀ g,(Value.slice a len c).ownBlock=some g→g<W1.heap.size:=fun g e=>(hx1.lt g e).2;have hbw:base≤W1.heap.size:=by rw [hW1];simp;omega
   rw [←hW1];replace hW1:=mK hW1;replace hxs:=mK hxs;replace hlw:=mK hlw;generalize wr.heap.size=hh at *;have hgs:=Xa hx1;clear a1 a2 a3 hbk hx1;obtain ⟨i0,hi,hz0,hz1,hz2⟩:=info_parts Afv;go_loopw [5,4] (fun j lg W2=>∃ q:Nat,q≤70∧j=.int .i64 q∧Yi base 136 (Ax n) W1 W2 (.slice a len c) len lg q) (fun j _ _=>70-(intOf j).toNat)
   case atStart=>exact ⟨0,Nat.zero_le _,rfl,hgs⟩
   case round=>
    obtain ⟨q,hq,rfl,hgr⟩:=hrel;have d2:=hgr.1.cell c2 hne;have dbk:=hgr.1.cell cbk hne2;have dlg:=hgr.1.cell clg hne3;clear c2 cbk clg;by_cases hql:q<70
    ·obtain ⟨v',w',happ,hgr'⟩:=Zz Ab4 hi hz0 hz1 hz2 rfl (m:=Ax n) rfl (ty:=50) hgr hlw.out hbw (by omega) (by omega)
     replace hgr:=mK hgr;replace hgr':=mK hgr';unfold Ax at happ;replace happ:=mK happ;go_wp2_with (first|(at_builtin;refine Fr rfl (.tmp 28) (.tmp 32) 50 rfl rfl rfl happ.out ?_)|(go_at_call 122;refine (Qa n _ (by omega) (by omega)).mono ?_;unfold Ax;rintro e w' ⟨rfl,rfl⟩));go_roundw
     case rel=>exact ⟨q+1,by omega,by go_num,hgr'.out⟩
     case measure=>simp [intOf]<;>omega
    ·obtain rfl:q=70:=by omega
     obtain ⟨a4,c4,hlg,-⟩:=Jn hgr.2.1
     have hfz4:wr.frozen? ⟨hb,k*3+1,none⟩=false:=by
      rw [World.frozen?_of_block ((Chg.grown hgr.1).block hb (World.block_lt_of_cell? _ _ clg0.out) hne3)];exact hfz
     have hst2:=hstep.out _ _ _ (by rw [←hW1.out];exact hgr);rw [hlg] at hst2 ⊢;replace hst2:=mK hst2;replace hgr:=mK hgr;go_wp2_with fail;go_roundw
     case rel=>exact ⟨k+1,by omega,by go_num,hst2.out⟩
     case measure=>simp [intOf]<;>omega
  ·go_wp2_with fail
   go_end0;obtain rfl:k=es.length:=by omega
   exact ⟨rfl,hfi⟩
theorem Qe (bk hb cap base:Nat)(es:List Ent)(w0 w:World)(h:w.cell? ⟨bk,1,none⟩=some (.slice (some ⟨hb,0,none⟩) es.length cap))(h2:es.length≤1000000)
 (hG:LookI base 136 Ax w0 w hb es es.length) (hn:∀ i (h:i<es.length),es[i].n≤1000000∧es[i].len≤1000000000) :
 Calls Tryz.prog 67 #[.pointer (some ⟨bk,0,none⟩)] w fun e w'=>e=.returned (.bool true)∧Ext w w':=by
 replace hG:=mK hG;replace hn:=mK hn;go_enter Tryz.func67,Tryz.ntmps67;go_wp2_with fail;go_loopw [3] (fun i wr=>∃ k:Nat,k≤es.length∧i=.int .i64 k∧Ext w wr) (fun i _=>es.length-(intOf i).toNat)
 case atStart=>exact ⟨0,Nat.zero_le _,rfl,xR _⟩
 case round=>
  obtain ⟨k,hk,rfl,hE⟩:=hrel;have hbk:=hE.cell h;by_cases hlt:k<es.length
  ·obtain ⟨a1,-,a3,-⟩:=hG.out.2.2.1 k hlt
   obtain ⟨lg,a2,hlo,-⟩:=hG.out.2.2.2 k hlt hlt;obtain ⟨hn1,hn2⟩:=hn.out k hlt;have hxs:=hG.out.2.1 k hlt hlt;obtain ⟨a,c,hv,hr⟩:=Bz hxs;obtain ⟨a',c',hv',hr'⟩:=Bz hlo;have hr:=hr.2;have hr':=hr'.2;subst hv';rw [hv] at a1;obtain ⟨n,hne⟩:=nmE (es[k].n);obtain ⟨len,hle⟩:=nmE (es[k].len);rw [←hle] at a1 a2 hr hr' hn2;rw [←hne] at a3 hn1 hr hr';replace a1:=hE.cell a1;replace a2:=hE.cell a2;replace a3:=hE.cell a3;replace hr:=hr.ext hE;replace hr':=hr'.ext hE;clear hv hne hle hxs hlo;replace hr:=mK hr;replace hr':=mK hr';replace hE:=mK hE;go_wp2_with fail;obtain ⟨W1,hW1⟩:=nmE (wr.alloc (.cells #[.slice a len c,.slice a' (len+70) c',.int .i64 n] 135));have hE1:=aLe1 hW1;have c0:W1.cell? ⟨wr.heap.size,0,none⟩=some (.slice a len c):=by rw [hW1];go_simp
   have c1:W1.cell? ⟨wr.heap.size,1,none⟩=some (.slice a' (len+70) c'):=by rw [hW1];go_simp
   have c2:W1.cell? ⟨wr.heap.size,2,none⟩=some (.int .i64 n):=by rw [hW1];go_simp
   have hr2:=mK (hr.out.ext hE1);have hr2':=mK (hr'.out.ext hE1);have hE2:=mK (hE.out.trans hE1);rw [←hW1];generalize wr.heap.size=hh at *;clear hr hr' hE hE1 hW1 a1 a2 a3 hbk;have hic:=fun w=>Aft n w (by omega) (by omega);unfold Ax at hic;replace hic:=mK hic;go_loopw [5] (fun j W2=>∃ q:Nat,q≤len+70∧j=.int .i64 q∧∃ m,W2=W1.drewN m) (fun j _=>len+70-(intOf j).toNat)
   case atStart=>exact ⟨0,Nat.zero_le _,rfl,0,rfl⟩
   case round=>
    obtain ⟨q,hq,rfl,hd⟩:=hrel;replace c0:wr.cell? _=_:=(Fi hd _).trans c0;replace c1:wr.cell? _=_:=(Fi hd _).trans c1;replace c2:wr.cell? _=_:=(Fi hd _).trans c2;by_cases hql:q<len+70
    ·obtain ⟨b',off',ha',hc'⟩:=hr2'.out
     have x1:=hc' q (by simpa using hql);have hA':=ha' (by simp);have hg1:(List.replicate (len+70) (Ax n)).getD q undef=.int .u32 (100000+n):=by simp [List.getD_eq_getElem?_getD,hql,Ax]
     rw [hg1] at x1;replace x1:wr.cell? _=_:=(Fi hd _).trans x1;rw [hA'] at c1 ⊢;clear hg1 ha' hc' hA';by_cases hql2:q<len
     ·obtain ⟨b,off,ha,hc⟩:=hr2.out
      have x2:=hc q (by simpa using hql2);have hA:=ha (by simp;omega);have hg2:(List.replicate len (Ax n)).getD q undef=.int .u32 (100000+n):=by simp [List.getD_eq_getElem?_getD,hql2,Ax]
      rw [hg2] at x2;replace x2:wr.cell? _=_:=(Fi hd _).trans x2;rw [hA] at c0 ⊢;clear hg2 ha hc hA;replace hd:=mK hd;go_wp2_with fail;go_quiet ((go_at_call 138;exact Calls.quiet_of_same ((hic.out _).mono fun _ _ h=>⟨h.1,h.2.symm⟩)));go_wp2_with fail;go_roundw
      case rel=>exact ⟨q+1,by omega,by go_num,Tf hd.out _⟩
      case measure=>simp [intOf]<;>omega
     ·replace hd:=mK hd
      go_wp2_with fail;go_quiet ((go_at_call 138;exact Calls.quiet_of_same ((hic.out _).mono fun _ _ h=>⟨h.1,h.2.symm⟩)));go_wp2_with fail;go_roundw
      case rel=>exact ⟨q+1,by omega,by go_num,Tf hd.out _⟩
      case measure=>simp [intOf]<;>omega
    ·obtain rfl:q=len+70:=by omega
     have hE3:Ext w wr:=by
      obtain ⟨m,rfl⟩:=hd;exact hE2.out.drN _
     replace hE3:=mK hE3;replace hd:=mK hd;go_wp2_with fail;go_roundw
     case rel=>exact ⟨k+1,by omega,by go_num,hE3.out⟩
     case measure=>simp [intOf]<;>omega
  ·go_wp2_with fail
   go_ret;exact ⟨rfl,hE⟩
theorem Uo:(Tryz.prog.info? 135).map (fun i=>(i.zero,i.size,i.bytes))=some (some (.agg #[.slice none 0 0,.slice none 0 0,.int .i64 0]),3,56):=by kernel_rfl
theorem Rm:Tryz.prog.underlying 29=some (.slice 135):=by kernel_rfl
theorem Qi (bk base:Nat)(sa:Option Addr)(sc:Nat)(la:Option Addr)(len lc:Nat)(es:List Ent)(n:Nat)(w:World)(hn:n≤1000000)(hes:es.length≤1000000)
  (h0:w.cell? ⟨bk,0,none⟩=some (.int .i64 n)) (hs:w.cell? ⟨bk,1,none⟩=some (.slice sa es.length sc)) (hf:∀ j,w.frozen? ⟨bk,j,none⟩=false)
  (ho:Own3 base 135 w (.slice sa es.length sc) es) (hbk:some bk≠(Value.slice sa es.length sc).ownBlock) (hbs:base≤w.heap.size) :
  Calls Tryz.prog 242 #[.pointer (some ⟨bk,0,none⟩),.slice la len lc] w fun e w'=>e=.returned (.tuple #[]) ∧
   Kept bk 1 base 135 w (.slice sa es.length sc) es (Ent.mk (.slice la len lc) (n+1) len) w':=by
 have hbw:bk<w.heap.size:=World.block_lt_of_cell? w _ h0;have hf0:=hf 0;replace hf:=mK hf;replace ho:=mK ho;go_enter Tryz.func242,Tryz.ntmps242;go_wp2_with fail;obtain ⟨N,hN⟩:=nmE (n+1);rw [show (n:Int)+1=(N:Int) by omega];replace hN:=mK hN;obtain ⟨w1,hw1⟩:=nmE (w.setCell ⟨bk,0,none⟩ (.int .i64 (N:Int)));have hc1:Chg w w1 (fun g=>g=bk):=by rw [hw1];exact ⟨rfl,rfl,rfl,by simp,fun j _ hj=>heap_setCell_other w _ j _ hj⟩
 have k0:w1.cell? ⟨bk,0,none⟩=some (.int .i64 (N:Int)):=by rw [hw1];exact World.cell?_setCell_same (h:=h0) ..
 have k4:w1.cell? ⟨bk,1,none⟩=some (.slice sa es.length sc):=by rw [hw1,World.cell?_setCell_other _ _ _ _ (by simp)];exact hs
 have kr:Rest bk 1 w w1:=fun i hi _=>by rw [hw1,World.cell?_setCell_other (a:=⟨bk,0,none⟩) (b:=⟨bk,i,none⟩) (h:=fun e=>Ne.symm hi (congrArg Addr.off e))]
 have kf:∀ j,w1.frozen? ⟨bk,j,none⟩=false:=fun j=>by rw [hw1,World.frozen?_setCell];exact hf.out j
 have ko:Own3 base 135 w1 (.slice sa es.length sc) es:=hc1.row ho.out fun g hg e=>hbk (by rw [hg,e]);have hsz:w1.heap.size=w.heap.size:=by rw [hw1];simp
 have hol:∀ g,(Value.slice sa es.length sc).ownBlock=some g→g<w1.heap.size:=fun g e=>(ko.lt g e).2;rw [←hw1];have hbk1:bk<w1.heap.size:=by omega
 have hnb:∀ W,AppR (Value.slice sa es.length sc).ownBlock (es.length*3) (.slice la len lc) (.slice none 0 0) (.int .i64 (N:Int)) w1 W→W.heap[bk]? = w1.heap[bk]?:=fun W e=>(e.block bk hbk1).resolve_right fun h=>hbk h.1;have g0:∀ W,AppR (Value.slice sa es.length sc).ownBlock (es.length*3) (.slice la len lc) (.slice none 0 0) (.int .i64 (N:Int)) w1 W→W.cell? ⟨bk,0,none⟩=some (.int .i64 (N:Int)):=fun W e=>(World.cell?_of_block (hnb W e)).trans k0;have g4:∀ W,AppR (Value.slice sa es.length sc).ownBlock (es.length*3) (.slice la len lc) (.slice none 0 0) (.int .i64 (N:Int)) w1 W→W.cell? ⟨bk,1,none⟩=some (.slice sa es.length sc):=fun W e=>(World.cell?_of_block (hnb W e)).trans k4;replace hnb:=mK hnb;replace hw1:=mK hw1;replace kr:=mK kr;replace kf:=mK kf;replace ko:=mK ko;replace hc1:=mK hc1;replace hol:=mK hol;replace k0:=mK k0;replace k4:=mK k4;clear h0 hs hf0
 apply Pi (Value.slice sa es.length sc).ownBlock (es.length*3) (.slice la len lc) (.slice none 0 0) (.int .i64 (N:Int))
  [.val _,.val _,.val _,.val _,.val _,.val _,.val _,.val _,.val _,.val _,.val _,.pred (PB w1.heap.size 135 (.slice la len lc) (N:Int)),
  .pred (PA base 135 w1.heap.size (Value.slice sa es.length sc).ownBlock (es++[Ent.mk (.slice la len lc) N len])),.val _,.val _] (by kernel_rfl)
  (stable_vals _ (stable_vals _ (stable_vals _ (stable_vals _ (stable_vals _ (stable_vals _ (stable_vals _ (stable_vals _ (stable_vals _ (stable_vals _ (stable_vals _
   ⟨fun W W' v e h=>PB.stable hol.out e h,fun W W' v e h=>PA.stable (es:=es) (e:=Ent.mk (.slice la len lc) N len) e h,stable_vals _ (stable_vals _ trivial)⟩)))))))))))
 iterate 11 (refine ⟨fun W hW _=>by go_simp;exact ⟨AppR.refl _,rfl⟩,?_⟩)
 refine ⟨fun W hW _=>?pb,fun vb=>?_⟩
 case pb=>
  go_simp;exact ⟨AppR.of_ext ((xR _).al _),W.heap.size,rfl,by have:=hW.size;omega,heap_alloc_new W _⟩
 refine ⟨fun W hW hF=>?pa,fun va=>?_⟩
 case pa=>
  obtain ⟨b,rfl,hb1,hb2⟩:=hF.1 (by kernel_rfl);rw [if_pos (by kernel_rfl)];obtain ⟨i0,hi,hz0,hz1,hz2⟩:=info_parts Uo;obtain ⟨v',w',r1,r2,r3,r4⟩:=Re (P:=Tryz.prog) W base 29 29 135 i0 _ 56 Rm hi hz0 hz1 hz2 rfl (.slice sa es.length sc) es (ko.out.stable hW) (Ent.mk (.slice la len lc) N len) b hb2 rfl hes (by omega) (by have:=hW.size;omega);refine Gf (vs:=.slice sa es.length sc) (vx:=.slice (some ⟨b,0,none⟩) 1 1) (.tmp 15) (.tmp 22) 29 rfl (by simp [Act.eval,Act.put]) (by simp [Act.eval,Act.put]) r1 ⟨r2,r3,?_⟩;rcases r4 with h|h
  ·exact .inl h
  ·exact .inr ⟨_,h,hW.size⟩
 iterate 2 (refine ⟨fun W hW _=>by go_simp;exact ⟨AppR.refl _,rfl⟩,?_⟩)
 intro W hW hF;have hp:PA base 135 w1.heap.size (Value.slice sa es.length sc).ownBlock (es++[Ent.mk (.slice la len lc) N len]) W va:=hF.1 rfl;clear hF;have hfin:=Abl (j:=1) (by decide) hbw hbk hc1.out hsz kr.out k0.out k4.out kf.out hW hp;rw [hN.out] at hfin;obtain ⟨a',c',hva⟩:=hp.1.shape;rw [show (es++[Ent.mk (.slice la len lc) N len]).length=es.length+1 by simp] at hva;have q4:=g4 W hW;have qf:W.frozen? ⟨bk,1,none⟩=false:=by rw [World.frozen?_of_block (hnb.out W hW)];exact kf.out 1
 subst hva;replace hfin:=mK hfin;replace hp:=mK hp;replace hW:=mK hW;clear g0 g4;go_simp;go_wp2_with fail;go_end0;exact ⟨rfl,hfin.out⟩
def Nils (bk j:Nat)(w:World):Prop:=∀ i,i≠0→i≠j→i≤16→w.cell? ⟨bk,i,none⟩=some (.slice none 0 0)
theorem Nils.chg {bk j:Nat}{w w':World}{S:Nat→Prop}(h:Nils bk j w)(c:Chg w w' S)(hs:¬S bk):Nils bk j w':=fun i h0 h1 h2=>c.cell (h i h0 h1 h2) hs
theorem Aaz (bk hb cap base:Nat)(es:List Ent)(w:World)(h:w.cell? ⟨bk,1,none⟩=some (.slice (some ⟨hb,0,none⟩) es.length cap))(h2:es.length≤1000000)
 (hN:Nils bk 1 w) (hH:Holds w hb es) (hL:Lists base 136 w es) (hD:Distinct es) (hb1:¬Blocks es bk) (hb2:¬Blocks es hb) (hb3:bk≠hb) (hb4:hb<w.heap.size) (hbs:base≤w.heap.size)
 (hn:∀ i (h:i<es.length),es[i].n≤1000000∧es[i].len≤1000000000) :
 Calls Tryz.prog 11 #[.pointer (some ⟨bk,0,none⟩)] w fun e w'=>e=.returned (.bool true)∧Chg w w' (fun g=>Blocks es g∨g=hb):=by
 have Z:∀ i,(i≠0∧i≠1)→i≤16→w.cell? ⟨bk,i,none⟩=some (.slice none 0 0):=fun i h=>hN i h.1 h.2;have HF:=mK (Qu bk hb cap base es w h h2 hH hL hD hb1 hb2 (fun i hi=>⟨(hn i hi).1,by have:=(hn i hi).2;omega⟩));have HG:=mK (fun w1 (hfi:Hd base 136 Ax w w1 es es.length)=>Qp bk hb cap base es w1 (hfi.1.cell h hb1) h2 (hH.chg hfi.1 hb2) hfi.2.1 hD hb1 hb2 hb3 (Nat.lt_of_lt_of_le hb4 hfi.1.size) (nT hbs hfi.1.size) (fun i hi=>⟨(hn i hi).1,(hn i hi).2⟩));have HK:=mK (fun w1 w2 (hfi:Hd base 136 Ax w w1 es es.length) (hgi:GrowI base 136 Ax w1 w2 hb es es.length)=>Qe bk hb cap base es w1 w2 (hgi.1.cell (hfi.1.cell h hb1) (fun e=>e.elim hb1 hb3)) h2 hgi.look hn);replace hb1:=mK hb1;replace hb3:=mK hb3;replace Z:=mK Z;clear hH hL hD hb2 hn hN h;go_enter Tryz.func11,Tryz.ntmps11
 go_wp2_with (first
  | (go_at_call 35;refine HF.out.mono ?_;rintro e w1 ⟨rfl,hfi⟩;replace Z:Hid (∀ i,(i≠0∧i≠1)→i≤16→w1.cell? ⟨bk,i,none⟩=some (.slice none 0 0)):=mK (fun i a b=>hfi.1.cell (Z.out i a b) hb1.out);replace hfi:=mK hfi)
  | (go_at_call 51;refine (HG.out _ hfi.out).mono ?_;rintro e w2 ⟨rfl,hgi⟩;replace Z:Hid (∀ i,(i≠0∧i≠1)→i≤16→w2.cell? ⟨bk,i,none⟩=some (.slice none 0 0)):=mK (fun i a b=>hgi.1.cell (Z.out i a b) (fun e=>e.elim hb1.out hb3.out));replace hgi:=mK hgi)
  | (go_at_call 67;refine (HK.out _ _ hfi.out hgi.out).mono ?_;rintro e w3 ⟨rfl,hE⟩;replace Z:Hid (∀ i,(i≠0∧i≠1)→i≤16→w3.cell? ⟨bk,i,none⟩=some (.slice none 0 0)):=mK (fun i a b=>hE.cell (Z.out i a b));replace hE:=mK hE)
  | (go_at_call 38;refine (Gq bk _ (Z.out _ (by decide) (by decide))).mono ?_;rintro e w' ⟨rfl,rfl⟩)
  | (go_at_call 36;refine (Hq bk _ (Z.out _ (by decide) (by decide))).mono ?_;rintro e w' ⟨rfl,rfl⟩)
  | (go_at_call 37;refine (If bk _ (Z.out _ (by decide) (by decide))).mono ?_;rintro e w' ⟨rfl,rfl⟩)
  | (go_at_call 39;refine (Kg bk _ (Z.out _ (by decide) (by decide))).mono ?_;rintro e w' ⟨rfl,rfl⟩)
  | (go_at_call 40;refine (Ki bk _ (Z.out _ (by decide) (by decide))).mono ?_;rintro e w' ⟨rfl,rfl⟩)
  | (go_at_call 41;refine (Ie bk _ (Z.out _ (by decide) (by decide))).mono ?_;rintro e w' ⟨rfl,rfl⟩)
  | (go_at_call 42;refine (Mx bk _ (Z.out _ (by decide) (by decide))).mono ?_;rintro e w' ⟨rfl,rfl⟩)
  | (go_at_call 43;refine (Gp bk _ (Z.out _ (by decide) (by decide))).mono ?_;rintro e w' ⟨rfl,rfl⟩)
  | (go_at_call 44;refine (Kk bk _ (Z.out _ (by decide) (by decide))).mono ?_;rintro e w' ⟨rfl,rfl⟩)
  | (go_at_call 45;refine (Kj bk _ (Z.out _ (by decide) (by decide))).mono ?_;rintro e w' ⟨rfl,rfl⟩)
  | (go_at_call 46;refine (Qt bk _ (Z.out _ (by decide) (by decide))).mono ?_;rintro e w' ⟨rfl,rfl⟩)
  | (go_at_call 47;refine (My bk _ (Z.out _ (by decide) (by decide))).mono ?_;rintro e w' ⟨rfl,rfl⟩)
  | (go_at_call 48;refine (Kh bk _ (Z.out _ (by decide) (by decide))).mono ?_;rintro e w' ⟨rfl,rfl⟩)
  | (go_at_call 49;refine (Mz bk _ (Z.out _ (by decide) (by decide))).mono ?_;rintro e w' ⟨rfl,rfl⟩)
  | (go_at_call 50;refine (Id bk _ (Z.out _ (by decide) (by decide))).mono ?_;rintro e w' ⟨rfl,rfl⟩)
  | (go_at_call 54;refine (Gm bk _ (Z.out _ (by decide) (by decide))).mono ?_;rintro e w' ⟨rfl,rfl⟩)
  | (go_at_call 52;refine (Hm bk _ (Z.out _ (by decide) (by decide))).mono ?_;rintro e w' ⟨rfl,rfl⟩)
  | (go_at_call 53;refine (Ic bk _ (Z.out _ (by decide) (by decide))).mono ?_;rintro e w' ⟨rfl,rfl⟩)
  | (go_at_call 55;refine (Jx bk _ (Z.out _ (by decide) (by decide))).mono ?_;rintro e w' ⟨rfl,rfl⟩)
  | (go_at_call 56;refine (Jz bk _ (Z.out _ (by decide) (by decide))).mono ?_;rintro e w' ⟨rfl,rfl⟩)
  | (go_at_call 57;refine (Ib bk _ (Z.out _ (by decide) (by decide))).mono ?_;rintro e w' ⟨rfl,rfl⟩)
  | (go_at_call 58;refine (Mt bk _ (Z.out _ (by decide) (by decide))).mono ?_;rintro e w' ⟨rfl,rfl⟩)
  | (go_at_call 59;refine (Gl bk _ (Z.out _ (by decide) (by decide))).mono ?_;rintro e w' ⟨rfl,rfl⟩)
  | (go_at_call 60;refine (Kb bk _ (Z.out _ (by decide) (by decide))).mono ?_;rintro e w' ⟨rfl,rfl⟩)
  | (go_at_call 61;refine (Ka bk _ (Z.out _ (by decide) (by decide))).mono ?_;rintro e w' ⟨rfl,rfl⟩)
  | (go_at_call 62;refine (Qo bk _ (Z.out _ (by decide) (by decide))).mono ?_;rintro e w' ⟨rfl,rfl⟩)
  | (go_at_call 63;refine (Mu bk _ (Z.out _ (by decide) (by decide))).mono ?_;rintro e w' ⟨rfl,rfl⟩)
  | (go_at_call 64;refine (Jy bk _ (Z.out _ (by decide) (by decide))).mono ?_;rintro e w' ⟨rfl,rfl⟩)
  | (go_at_call 65;refine (Mv bk _ (Z.out _ (by decide) (by decide))).mono ?_;rintro e w' ⟨rfl,rfl⟩)
  | (go_at_call 66;refine (Ia bk _ (Z.out _ (by decide) (by decide))).mono ?_;rintro e w' ⟨rfl,rfl⟩)
  | (go_at_call 70;refine (Gk bk _ (Z.out _ (by decide) (by decide))).mono ?_;rintro e w' ⟨rfl,rfl⟩)
  | (go_at_call 68;refine (Hl bk _ (Z.out _ (by decide) (by decide))).mono ?_;rintro e w' ⟨rfl,rfl⟩)
  | (go_at_call 69;refine (Hz bk _ (Z.out _ (by decide) (by decide))).mono ?_;rintro e w' ⟨rfl,rfl⟩)
  | (go_at_call 71;refine (Jr bk _ (Z.out _ (by decide) (by decide))).mono ?_;rintro e w' ⟨rfl,rfl⟩)
  | (go_at_call 72;refine (Jt bk _ (Z.out _ (by decide) (by decide))).mono ?_;rintro e w' ⟨rfl,rfl⟩)
  | (go_at_call 73;refine (Hy bk _ (Z.out _ (by decide) (by decide))).mono ?_;rintro e w' ⟨rfl,rfl⟩)
  | (go_at_call 74;refine (Mn bk _ (Z.out _ (by decide) (by decide))).mono ?_;rintro e w' ⟨rfl,rfl⟩)
  | (go_at_call 75;refine (Gj bk _ (Z.out _ (by decide) (by decide))).mono ?_;rintro e w' ⟨rfl,rfl⟩)
  | (go_at_call 76;refine (Jv bk _ (Z.out _ (by decide) (by decide))).mono ?_;rintro e w' ⟨rfl,rfl⟩)
  | (go_at_call 77;refine (Ju bk _ (Z.out _ (by decide) (by decide))).mono ?_;rintro e w' ⟨rfl,rfl⟩)
  | (go_at_call 78;refine (Qd bk _ (Z.out _ (by decide) (by decide))).mono ?_;rintro e w' ⟨rfl,rfl⟩)
  | (go_at_call 79;refine (Mo bk _ (Z.out _ (by decide) (by decide))).mono ?_;rintro e w' ⟨rfl,rfl⟩)
  | (go_at_call 80;refine (Js bk _ (Z.out _ (by decide) (by decide))).mono ?_;rintro e w' ⟨rfl,rfl⟩)
  | (go_at_call 81;refine (Mp bk _ (Z.out _ (by decide) (by decide))).mono ?_;rintro e w' ⟨rfl,rfl⟩)
  | (go_at_call 82;refine (Hx bk _ (Z.out _ (by decide) (by decide))).mono ?_;rintro e w' ⟨rfl,rfl⟩))
 go_ret;exact ⟨rfl,((hfi.out.1.mono fun g _ h=>.inl h).trans hgi.out.1).trans (Chg.of_ext hE.out _)⟩
def Bt:Array Value:=#[.int .i64 0,.slice none 0 0,.slice none 0 0,.slice none 0 0,.slice none 0 0,.slice none 0 0,.slice none 0 0,.slice none 0 0,.slice none 0 0,.slice none 0 0,.slice none 0 0,.slice none 0 0,.slice none 0 0,.slice none 0 0,.slice none 0 0,.slice none 0 0,.slice none 0 0]
structure BookS (W0:World) (bk base:Nat) (es:List Ent) (w:World):Prop where
 b:bk<W0.heap.size∧base≤W0.heap.size
 n:w.cell? ⟨bk,0,none⟩=some (.int .i64 (es.length:Nat))
 l:∃ sa sc,w.cell? ⟨bk,1,none⟩=some (.slice sa es.length sc)∧Own3 base 135 w (.slice sa es.length sc) es∧∀ g,(Value.slice sa es.length sc).ownBlock=some g→W0.heap.size≤g
 f:∀ i,w.frozen? ⟨bk,i,none⟩=false
 z:Nils bk 1 w
 c:Chg W0 w (fun g=>g=bk)
theorem BookS.start {W0:World}{bk base T:Nat}(h:W0.heap[bk]? = some (.cells Bt T))(hb:base≤W0.heap.size):BookS W0 bk base [] W0:=by
 have hc:∀ i,i≠0→i≤16→W0.cell? ⟨bk,i,none⟩=some (.slice none 0 0):=by
  intro i h0 h1;rw [cell_of_row _ _ i Bt T (0,0) h];have:i=1∨i=2∨i=3∨i=4∨i=5∨i=6∨i=7∨i=8∨i=9∨i=10∨i=11∨i=12∨i=13∨i=14∨i=15∨i=16:=by omega
  rcases this with rfl|rfl|rfl|rfl|rfl|rfl|rfl|rfl|rfl|rfl|rfl|rfl|rfl|rfl|rfl|rfl<;>rfl
 refine ⟨⟨(Array.getElem?_eq_some_iff.1 h).1,hb⟩,?_,⟨none,0,hc 1 (by decide) (by decide),World.ownsRow_nil _ _ _ _,fun g hg=>by cases hg⟩,fun i=>frozen_of_row _ _ i Bt T h,fun i h0 _ h2=>hc i h0 h2,Chg.refl _ _⟩;rw [cell_of_row _ _ 0 Bt T (0,0) h];rfl
theorem BookS.ext {W0 w w':World}{bk base:Nat}{es:List Ent}(h:BookS W0 bk base es w)(e:Ext w w'):BookS W0 bk base es w':=by
 obtain ⟨hb,hn,⟨sa,sc,h1,h2,h3⟩,hf,hz,hc⟩:=h;have cc:=Chg.of_ext e (fun _=>False);have hlt:bk<w.heap.size:=Nat.lt_of_lt_of_le hb.1 hc.size;refine ⟨hb,e.cell hn,⟨sa,sc,e.cell h1,cc.row h2 (fun _ _ h=>h),h3⟩,fun i=>?_,hz.chg cc (fun h=>h),hc.trans (Chg.of_ext e _)⟩;rw [World.frozen?_of_block (e.block bk hlt)];exact hf i
theorem BookS.step {W0 w w':World}{bk base:Nat}{es:List Ent}{e:Ent}{sa:Option Addr}{sc:Nat}(h:BookS W0 bk base es w)(h3:∀ g,(Value.slice sa es.length sc).ownBlock=some g→W0.heap.size≤g)(he:e.n=es.length+1)
  (k:Kept bk 1 base 135 w (.slice sa es.length sc) es e w'):BookS W0 bk base (es++[e]) w':=by
 obtain ⟨sa',sc',c1,z0,z1,f1,r1,p1,q1⟩:=k;have hlen:(es++[e]).length=es.length+1:=by simp
 refine ⟨h.b,by rw [z0,hlen,he],⟨sa',sc',by rw [hlen];exact z1,by rw [hlen];exact p1,fun g hg=>?_⟩,f1,fun i h0 h1 h2=>by rw [r1 i h0 h1];exact h.z i h0 h1 h2,?_⟩
 ·rw [hlen] at hg
  rcases q1 with q|⟨b,q,q2⟩
  ·exact h3 g (q.symm.trans hg)
  ·have hgb:some b=some g:=q.symm.trans hg
   cases hgb;exact nT h.c.size q2
 ·refine ⟨c1.os.trans h.c.os,c1.tape.trans h.c.tape,c1.output.trans h.c.output,nT h.c.size c1.size,fun i hi hn=>?_⟩
  refine (c1.block i (Nat.lt_of_lt_of_le hi h.c.size) ?_).trans (h.c.block i hi hn);rintro (x|x)
  ·exact hn x
  ·have:=h3 i x.symm
   omega
def Safe (bk:Nat)(w:World)(k:Nat):Prop:=k≠bk∧∀ a n c,w.cell? ⟨bk,1,none⟩=some (.slice a n c)→(Value.slice a n c).ownBlock≠some k
structure Kp (bk:Nat) (w w':World):Prop where
 size:w.heap.size≤w'.heap.size
 keep:∀ k,k<w.heap.size→Safe bk w k→w'.heap[k]? = w.heap[k]?∧Safe bk w' k
theorem Kp.trans {bk:Nat}{a b c:World}(h:Kp bk a b)(k:Kp bk b c):Kp bk a c:=
 ⟨nT h.size k.size,fun i hi hs=>by
  obtain ⟨h1,h2⟩:=h.keep i hi hs
  obtain ⟨k1,k2⟩:=k.keep i (Nat.lt_of_lt_of_le hi h.size) h2
  exact ⟨k1.trans h1,k2⟩⟩
theorem Kp.of_ext {bk:Nat}{w w':World}(hb:bk<w.heap.size)(e:Ext w w'):Kp bk w w':=
 ⟨e.size,fun k hk hs=>⟨e.block k hk,hs.1,fun a n c h=>hs.2 a n c ((World.cell?_of_block (e.block bk hb)).symm.trans h)⟩⟩
theorem Kp.blk {bk k:Nat}{w w':World}{o:Obj}(h:Kp bk w w')(hk:w.heap[k]? = some o)(hs:Safe bk w k):w'.heap[k]? = some o:=(h.keep k (Array.getElem?_eq_some_iff.1 hk).1 hs).1.trans hk
theorem BookS.safe {W0 w W:World}{bk base:Nat}{es:List Ent}(h:BookS W0 bk base es w)(e:Ext w W){k:Nat}(hk:w.heap.size≤k):Safe bk W k:=by
 obtain ⟨sa,sc,h1,h2,h3⟩:=h.l;have hlt:bk<w.heap.size:=Nat.lt_of_lt_of_le h.b.1 h.c.size;refine ⟨by omega,fun a n c hc hg=>?_⟩;rw [e.cell h1] at hc;cases hc;have:=(h2.lt k hg).2;omega
theorem Zu {bk base T n:Nat}{w w':World}{sa:Option Addr}{sc:Nat}{es:List Ent}{e:Ent}(h1:w.cell? ⟨bk,1,none⟩=some (.slice sa n sc))(hn:n=es.length)(k:Kept bk 1 base T w (.slice sa es.length sc) es e w'):Kp bk w w':=by
 subst hn;obtain ⟨sa',sc',c1,z0,z1,f1,r1,p1,q1⟩:=k;refine ⟨c1.size,fun k hk hs=>⟨c1.block k hk ?_,hs.1,fun a n c hc hg=>?_⟩⟩
 ·rintro (x|x)
  ·exact hs.1 x
  ·exact hs.2 _ _ _ h1 x.symm
 ·rw [z1] at hc
  cases hc;rcases q1 with q|⟨b,q,q2⟩
  ·exact hs.2 _ _ _ h1 (q.symm.trans hg)
  ·have hbk:some b=some k:=q.symm.trans hg
   cases hbk;omega
theorem Ajc (W0:World)(bk base:Nat)(la:Option Addr)(len lc:Nat)(es:List Ent)(w:World)(h:BookS W0 bk base es w)(hes:es.length≤1000) :
  Calls Tryz.prog 242 #[.pointer (some ⟨bk,0,none⟩),.slice la len lc] w fun e w'=>e=.returned (.tuple #[])∧BookS W0 bk base (es++[Ent.mk (.slice la len lc) (es.length+1) len]) w'∧Kp bk w w':=by
 obtain ⟨sa,sc,h1,h2,h3⟩:=h.l;refine (Qi bk base sa sc la len lc es es.length w (by omega) (by omega) h.n h1 h.f h2 (fun e=>?_) (nT h.b.2 h.c.size)).mono fun e w' k=>⟨k.1,h.step h3 rfl k.2,Zu h1 rfl k.2⟩
 have:=h3 bk e.symm;have:=h.b.1;omega
theorem Aim (W0:World)(bk base:Nat)(es:List Ent)(w:World)(h:BookS W0 bk base es w)(hne:es≠[])(hes:es.length≤1000)(hL:Lists base 136 W0 es)(hD:Distinct es)(hb:∀ g,Blocks es g→g≠bk∧g<W0.heap.size)
  (hn:∀ i (h:i<es.length),es[i].n≤1000000∧es[i].len≤1000000000) :
  Calls Tryz.prog 11 #[.pointer (some ⟨bk,0,none⟩)] w fun e w'=>e=.returned (.bool true)∧Chg W0 w' (fun g=>Blocks es g∨g=bk):=by
 obtain ⟨sa,sc,h1,h2,h3⟩:=h.l;obtain ⟨hb',cap,e2,hh,hb2,hb3⟩:=h2.holds hne;rw [e2] at h1 h3;have hge:=h3 hb' rfl;have hlt:=h.b.1;refine (Aaz bk hb' cap base es w h1 (by omega) h.z hh (fun i hi=>?_) hD (fun x=>(hb _ x).1 rfl) (fun x=>by have:=(hb _ x).2;omega) (by omega) hb3 (nT h.b.2 h.c.size) hn).mono fun e w' k=>⟨k.1,?_⟩
 ·obtain ⟨xs,hx⟩:=hL i hi
  exact ⟨xs,h.c.row hx fun g hg=>(hb g ⟨i,hi,hg⟩).1⟩
 ·refine ⟨k.2.os.trans h.c.os,k.2.tape.trans h.c.tape,k.2.output.trans h.c.output,nT h.c.size k.2.size,fun i hi hx=>?_⟩
  refine (k.2.block i (Nat.lt_of_lt_of_le hi h.c.size) ?_).trans (h.c.block i hi fun x=>hx (.inr x));rintro (x|x)
  ·exact hx (.inl x)
  ·omega
theorem Kx {w:World}{g T:Nat}{c:Array Value}(h:w.heap[g]? = some (.cells c T (0,0)))(k:Nat){v:Value}(hv:c[k]? = some v):w.cell? ⟨g,k,none⟩=some v:=by
 rw [←hv];simp [World.cell?,h]
theorem Agk (W0:World)(bk base:Nat)(b:Bool)(la:Option Addr)(len lc:Nat)(es:List Ent)(w:World)(h:BookS W0 bk base es w)(hes:es.length≤1000) :
  Calls Tryz.prog 191 #[.pointer (some ⟨bk,0,none⟩),.agg #[.bool b,.slice la len lc]] w fun e w'=>e=.returned (.tuple #[])∧BookS W0 bk base (es++[Ent.mk (.slice la len lc) (es.length+1) len]) w'∧Kp bk w w':=by
 have hlt:Hid (bk<w.heap.size):=Nat.lt_of_lt_of_le h.b.1 h.c.size;have K:=mK (fun W (e:Ext w W)=>Ajc W0 bk base la len lc es W (h.ext e) hes);replace h:=mK h;go_enter Tryz.func191,Tryz.ntmps191;go_wp2_with (go_at_call 242;refine (K.out _ ((xR _).al _)).mono ?_;rintro e w' ⟨rfl,h1,h2⟩;replace h1:=mK h1;replace h2:=mK ((Kp.of_ext hlt.out ((xR _).al _)).trans h2));go_end0;exact ⟨rfl,h1.out,h2.out⟩
def Eb (n:Nat)(a1:Option Addr)(n1 c1:Nat)(a2:Option Addr)(n2 c2:Nat):List Ent:=[Ent.mk (.slice a1 n1 c1) (n+1) n1,Ent.mk (.slice a2 n2 c2) (n+2) n2]
theorem Abv (W0:World)(bk base:Nat)(b1:Bool)(a1:Option Addr)(n1 c1:Nat)(b2:Bool)(a2:Option Addr)(n2 c2:Nat)(es:List Ent)(w:World)(h:BookS W0 bk base es w)(hes:es.length≤900) :
  Calls Tryz.prog 121 #[.pointer (some ⟨bk,0,none⟩),.agg #[.bool b1,.slice a1 n1 c1,.bool b2,.slice a2 n2 c2]] w fun e w'=>e=.returned (.tuple #[])∧BookS W0 bk base (es++Eb es.length a1 n1 c1 a2 n2 c2) w'∧Kp bk w w':=by
 have hlt:bk<w.heap.size:=Nat.lt_of_lt_of_le h.b.1 h.c.size;have K1:=mK (fun W (e:Ext w W)=>Agk W0 bk base b1 a1 n1 c1 es W (h.ext e) (by omega));have K2:=mK (fun W (x:BookS W0 bk base (es++[Ent.mk (.slice a1 n1 c1) (es.length+1) n1]) W)=>Agk W0 bk base b2 a2 n2 c2 _ W x (by simp;omega));obtain ⟨w1,hw1⟩:=nmE (w.alloc (.cells #[.bool b1,.slice a1 n1 c1,.bool b2,.slice a2 n2 c2] 54));have hE1:=aLe1 hw1;have z1:=aL10 hw1;have sf:Safe bk w1 w.heap.size:=h.safe hE1 (nR _);replace hE1:=mK hE1;go_enter Tryz.func121,Tryz.ntmps121;go_wp2_with fail;rw [←hw1];clear hw1;go_wp2_with (go_at_call 191;refine (K1.out _ hE1.out).mono ?_;rintro e w2 ⟨rfl,s1,k1⟩;(have z2:=k1.blk z1 sf);(have y2:=Kx z2 2 rfl);(have y3:=Kx z2 3 rfl);replace s1:=mK s1;replace k1:=mK k1;clear z1 z2);go_wp2_with (go_at_call 191;refine (K2.out _ s1.out).mono ?_;rintro e w3 ⟨rfl,s2,k2⟩;replace s2:=mK s2;replace k2:=mK k2);go_end0;exact ⟨rfl,by simpa [Eb] using s2.out,((Kp.of_ext hlt hE1.out).trans k1.out).trans k2.out⟩
def Dz (n:Nat)(a1:Option Addr)(n1 c1:Nat)(a2:Option Addr)(n2 c2:Nat)(a3:Option Addr)(n3 c3:Nat)(a4:Option Addr)(n4 c4:Nat):List Ent:=Eb n a1 n1 c1 a2 n2 c2++Eb (n+2) a3 n3 c3 a4 n4 c4
theorem Aax (W0:World)(bk base:Nat)(kd:Int)(b1:Bool)(a1:Option Addr)(n1 c1:Nat)(b2:Bool)(a2:Option Addr)(n2 c2:Nat)(b3:Bool)(a3:Option Addr)(n3 c3:Nat)(b4:Bool)(a4:Option Addr)(n4 c4:Nat)(es:List Ent)(w:World)(h:BookS W0 bk base es w)(hes:es.length≤800) :
  Calls Tryz.prog 34 #[.pointer (some ⟨bk,0,none⟩),.agg #[.int .u8 kd,.bool b1,.slice a1 n1 c1,.bool b2,.slice a2 n2 c2,.bool b3,.slice a3 n3 c3,.bool b4,.slice a4 n4 c4]] w fun e w'=>e=.returned (.tuple #[])∧BookS W0 bk base (es++Dz es.length a1 n1 c1 a2 n2 c2 a3 n3 c3 a4 n4 c4) w'∧Kp bk w w':=by
 have hlt:bk<w.heap.size:=Nat.lt_of_lt_of_le h.b.1 h.c.size;have K1:=mK (fun W (e:Ext w W)=>Abv W0 bk base b1 a1 n1 c1 b2 a2 n2 c2 es W (h.ext e) (by omega));have K2:=mK (fun W (x:BookS W0 bk base (es++Eb es.length a1 n1 c1 a2 n2 c2) W)=>Abv W0 bk base b3 a3 n3 c3 b4 a4 n4 c4 _ W x (by simp [Eb];omega));obtain ⟨w1,hw1⟩:=nmE (w.alloc (.cells #[.int .u8 kd,.bool b1,.slice a1 n1 c1,.bool b2,.slice a2 n2 c2,.bool b3,.slice a3 n3 c3,.bool b4,.slice a4 n4 c4] 56));have hE1:=aLe1 hw1;have z1:=mK (aL10 hw1);have sf:=mK (h.safe hE1 (nR _));replace hE1:=mK hE1;replace hw1:=mK hw1;replace hlt:=mK hlt;obtain ⟨lim,hlim⟩:=nmE (es++Dz es.length a1 n1 c1 a2 n2 c2 a3 n3 c3 a4 n4 c4);rw [←hlim];replace hlim:=mK hlim;clear h hes;have tok:True:=trivial;go_enter Tryz.func34,Tryz.ntmps34
 go_wp2_with (first
  | (rw [←hw1.out];refine Ab rfl 54 (.tmp 5) rfl w.heap.size 1 rfl 56 #[.int .u8 kd,.bool b1,.slice a1 n1 c1,.bool b2,.slice a2 n2 c2,.bool b3,.slice a3 n3 c3,.bool b4,.slice a4 n4 c4] #[.bool b1,.slice a1 n1 c1,.bool b2,.slice a2 n2 c2] (0,0) _ z1.out rfl Tryz.underlying54 rfl (by kernel_rfl) ?_)
  | (go_at_call 121;have _t:=tok;clear tok;refine (K1.out _ hE1.out).mono ?_;rintro e w2 ⟨rfl,s1,k1⟩;(have z2:=mK (k1.blk z1.out sf.out));replace s1:=mK s1;replace k1:=mK k1)
  | (refine Ab rfl 54 (.tmp 9) rfl w.heap.size 5 rfl 56 #[.int .u8 kd,.bool b1,.slice a1 n1 c1,.bool b2,.slice a2 n2 c2,.bool b3,.slice a3 n3 c3,.bool b4,.slice a4 n4 c4] #[.bool b3,.slice a3 n3 c3,.bool b4,.slice a4 n4 c4] (0,0) _ z2.out rfl Tryz.underlying54 rfl (by kernel_rfl) ?_)
  | (go_at_call 121;refine (K2.out _ s1.out).mono ?_;rintro e w3 ⟨rfl,s2,k2⟩;replace s2:=mK s2;replace k2:=mK k2))
 go_end0;refine ⟨rfl,?_,((Kp.of_ext hlt.out hE1.out).trans k1.out).trans k2.out⟩;rw [hlim.out];have:=s2.out;rw [List.append_assoc] at this;simpa only [Dz,Eb,List.length_append,List.length_cons,List.length_nil,Nat.reduceAdd] using this
theorem Ail (W0:World)(bk base:Nat)(nm:ByteArray)(co:Int)(kd:Int)(b1:Bool)(a1:Option Addr)(n1 c1:Nat)(b2:Bool)(a2:Option Addr)(n2 c2:Nat)(b3:Bool)(a3:Option Addr)(n3 c3:Nat)(b4:Bool)(a4:Option Addr)(n4 c4:Nat)(es:List Ent)(w:World)(h:BookS W0 bk base es w)(hes:es.length≤800) :
  Calls Tryz.prog 10 #[.pointer (some ⟨bk,0,none⟩),.agg #[.string nm,.int .u8 kd,.bool b1,.slice a1 n1 c1,.bool b2,.slice a2 n2 c2,.bool b3,.slice a3 n3 c3,.bool b4,.slice a4 n4 c4,.int .i64 co]] w fun e w'=>e=.returned (.tuple #[])∧BookS W0 bk base (es++Dz es.length a1 n1 c1 a2 n2 c2 a3 n3 c3 a4 n4 c4) w'∧Kp bk w w':=by
 have hlt:bk<w.heap.size:=Nat.lt_of_lt_of_le h.b.1 h.c.size;have K1:=mK (fun W (e:Ext w W)=>Aax W0 bk base kd b1 a1 n1 c1 b2 a2 n2 c2 b3 a3 n3 c3 b4 a4 n4 c4 es W (h.ext e) (by omega));obtain ⟨w1,hw1⟩:=nmE (w.alloc (.cells #[.string nm,.int .u8 kd,.bool b1,.slice a1 n1 c1,.bool b2,.slice a2 n2 c2,.bool b3,.slice a3 n3 c3,.bool b4,.slice a4 n4 c4,.int .i64 co] 58));have hE1:=mK (aLe1 hw1);have z1:=mK (aL10 hw1);replace hw1:=mK hw1;replace hlt:=mK hlt;generalize es++Dz es.length a1 n1 c1 a2 n2 c2 a3 n3 c3 a4 n4 c4=lim at *;clear h hes;go_enter Tryz.func10,Tryz.ntmps10
 go_wp2_with (first
  | (rw [←hw1.out];refine Ab rfl 56 (.tmp 5) rfl w.heap.size 1 rfl 58 #[.string nm,.int .u8 kd,.bool b1,.slice a1 n1 c1,.bool b2,.slice a2 n2 c2,.bool b3,.slice a3 n3 c3,.bool b4,.slice a4 n4 c4,.int .i64 co] #[.int .u8 kd,.bool b1,.slice a1 n1 c1,.bool b2,.slice a2 n2 c2,.bool b3,.slice a3 n3 c3,.bool b4,.slice a4 n4 c4] (0,0) _ z1.out rfl Tryz.underlying56 rfl (by kernel_rfl) ?_)
  | (go_at_call 34;refine (K1.out _ hE1.out).mono ?_;rintro e w2 ⟨rfl,s1,k1⟩;replace s1:=mK s1;replace k1:=mK k1))
 go_end0;exact ⟨rfl,s1.out,(Kp.of_ext hlt.out hE1.out).trans k1.out⟩
def ents4 (g1 n1 g2 n2 g3 n3 g4 n4:Nat):List Ent:=[Ent.mk (.slice (some ⟨g1,0,none⟩) n1 (n1+1)) 1 n1,Ent.mk (.slice (some ⟨g2,0,none⟩) n2 (n2+1)) 2 n2,Ent.mk (.slice (some ⟨g3,0,none⟩) n3 (n3+1)) 3 n3,Ent.mk (.slice (some ⟨g4,0,none⟩) n4 (n4+1)) 4 n4]
theorem blocks4 {g1 n1 g2 n2 g3 n3 g4 n4 g:Nat}(h:Blocks (ents4 g1 n1 g2 n2 g3 n3 g4 n4) g):g=g1∨g=g2∨g=g3∨g=g4:=by
 obtain ⟨i,hi,h⟩:=h
 have:i=0∨i=1∨i=2∨i=3:=by
  simp [ents4] at hi;omega
 rcases this with rfl|rfl|rfl|rfl<;>simp [ents4,Value.ownBlock] at h<;>omega
theorem distinct4 {g1 n1 g2 n2 g3 n3 g4 n4:Nat}(h:g1≠g2∧g1≠g3∧g1≠g4∧g2≠g3∧g2≠g4∧g3≠g4):Distinct (ents4 g1 n1 g2 n2 g3 n3 g4 n4):=by
 obtain ⟨h1,h2,h3,h4,h5,h6⟩:=h;intro i j hi hj hne;refine .inr ?_
 have a:i=0∨i=1∨i=2∨i=3:=by
  simp [ents4] at hi;omega
 have b:j=0∨j=1∨j=2∨j=3:=by
  simp [ents4] at hj;omega
 rcases a with rfl|rfl|rfl|rfl<;>rcases b with rfl|rfl|rfl|rfl<;>simp [ents4,Value.ownBlock] at hne ⊢<;>omega
theorem lists4 {w:World}{lo g1 g2 g3 g4:Nat}{l1 l2 l3 l4:List Nat}(h:lo≤g1∧lo≤g2∧lo≤g3∧lo≤g4)(t1:TwG w g1 l1)(t2:TwG w g2 l2)(t3:TwG w g3 l3)(t4:TwG w g4 l4)
  (k1:l1.length≤4294967296) (k2:l2.length≤4294967296) (k3:l3.length≤4294967296) (k4:l4.length≤4294967296):Lists lo 136 w (ents4 g1 l1.length g2 l2.length g3 l3.length g4 l4.length):=by
 intro i hi
 have a:i=0∨i=1∨i=2∨i=3:=by
  simp [ents4] at hi;omega
 rcases a with rfl|rfl|rfl|rfl
 ·exact ⟨_,t1.owns h.1 k1⟩
 ·exact ⟨_,t2.owns h.2.1 k2⟩
 ·exact ⟨_,t3.owns h.2.2.1 k3⟩
 ·exact ⟨_,t4.owns h.2.2.2 k4⟩
def Agr (W0:World)(bk base g1 n1 g2 n2 g3 n3 g4 n4:Nat)(w:World):Prop:=BookS W0 bk base (ents4 g1 n1 g2 n2 g3 n3 g4 n4) w
theorem Aau (W0:World)(bk base T:Nat)(nm:ByteArray)(kd co:Int)(b1 b2 b3 b4:Bool)(g1 n1 g2 n2 g3 n3 g4 n4:Nat)(h:W0.heap[bk]? = some (.cells Bt T))(hb:base≤W0.heap.size) :
  Calls Tryz.prog 10 #[.pointer (some ⟨bk,0,none⟩),.agg #[.string nm,.int .u8 kd,.bool b1,.slice (some ⟨g1,0,none⟩) n1 (n1+1),.bool b2,.slice (some ⟨g2,0,none⟩) n2 (n2+1),.bool b3,.slice (some ⟨g3,0,none⟩) n3 (n3+1),.bool b4,.slice (some ⟨g4,0,none⟩) n4 (n4+1),.int .i64 co]] W0
   fun e w'=>e=.returned (.tuple #[])∧Agr W0 bk base g1 n1 g2 n2 g3 n3 g4 n4 w'∧Kp bk W0 w':=
 Ail W0 bk base nm co kd b1 _ n1 (n1+1) b2 _ n2 (n2+1) b3 _ n3 (n3+1) b4 _ n4 (n4+1) [] W0 (BookS.start h hb) (by decide)
theorem Yf (W0:World)(bk lo g1 g2 g3 g4:Nat)(l1 l2 l3 l4:List Nat)(w:World)(h:Agr W0 bk lo g1 l1.length g2 l2.length g3 l3.length g4 l4.length w)
  (hne:g1≠g2∧g1≠g3∧g1≠g4∧g2≠g3∧g2≠g4∧g3≠g4) (hlo:lo≤g1∧lo≤g2∧lo≤g3∧lo≤g4) (hbk:g1≠bk∧g2≠bk∧g3≠bk∧g4≠bk) (t1:TwG W0 g1 l1) (t2:TwG W0 g2 l2) (t3:TwG W0 g3 l3) (t4:TwG W0 g4 l4)
  (k1:l1.length≤1000000000) (k2:l2.length≤1000000000) (k3:l3.length≤1000000000) (k4:l4.length≤1000000000) :
  Calls Tryz.prog 11 #[.pointer (some ⟨bk,0,none⟩)] w fun e w'=>e=.returned (.bool true)∧Chg W0 w' (fun g=>(g=g1∨g=g2∨g=g3∨g=g4)∨g=bk):=by
 refine (Aim W0 bk lo _ w h (by simp [ents4]) (by simp [ents4]) (lists4 hlo t1 t2 t3 t4 (by omega) (by omega) (by omega) (by omega)) (distinct4 hne) (fun g hg=>?_) (fun i hi=>?_)).mono fun e w' hh=>⟨hh.1,hh.2.mono fun g _ hg=>?_⟩
 ·rcases blocks4 hg with rfl|rfl|rfl|rfl
  ·exact ⟨hbk.1,t1.lt⟩
  ·exact ⟨hbk.2.1,t2.lt⟩
  ·exact ⟨hbk.2.2.1,t3.lt⟩
  ·exact ⟨hbk.2.2.2,t4.lt⟩
 ·have a:i=0∨i=1∨i=2∨i=3:=by
   simp [ents4] at hi;omega
  rcases a with rfl|rfl|rfl|rfl<;>simp [ents4]<;>omega
 ·rcases hg with hg|hg
  ·exact .inl (blocks4 hg)
  ·exact .inr hg
def eqI (b b':Bool)(l l':List Nat):Bool:=decide (b=b'∧l=l')
theorem Af1 (b:Bool)(l:List Nat):eqI b b l l=true:=by simp [eqI]
def RawL (w:World)(b1:Bool)(a1:Option Addr)(l1:List Nat)(c1:Nat)(b2:Bool)(a2:Option Addr)(l2:List Nat)(c2:Nat):Prop:=
 l1.length≤4294967296∧l2.length≤4294967296∧AnyR w (.agg #[.bool b1,.slice a1 l1.length c1]) b1 l1∧AnyR w (.agg #[.bool b2,.slice a2 l2.length c2]) b2 l2
theorem RawL.ext {w w':World}{b1:Bool}{a1:Option Addr}{l1:List Nat}{c1:Nat}{b2:Bool}{a2:Option Addr}{l2:List Nat}{c2:Nat}(h:RawL w b1 a1 l1 c1 b2 a2 l2 c2)(e:Ext w w'):RawL w' b1 a1 l1 c1 b2 a2 l2 c2:=⟨h.1,h.2.1,h.2.2.1.ext e,h.2.2.2.ext e⟩
theorem RawL.zero (w:World):RawL w false none [] 0 false none [] 0:=by
 have h:AnyR w (.agg #[.bool false,.slice none 0 0]) false []:=⟨none,0,rfl,Abe,nR _,Hf w⟩
 exact ⟨Nat.zero_le _,Nat.zero_le _,h,h⟩
theorem Pd (b1:Bool)(a1:Option Addr)(l1:List Nat)(c1:Nat)(b2:Bool)(a2:Option Addr)(l2:List Nat)(c2:Nat)(b1':Bool)(a1':Option Addr)(l1':List Nat)(c1':Nat)(b2':Bool)(a2':Option Addr)(l2':List Nat)(c2':Nat)(w:World)(h:RawL w b1 a1 l1 c1 b2 a2 l2 c2)(h':RawL w b1' a1' l1' c1' b2' a2' l2' c2') :
  Calls Tryz.prog 158 #[.agg #[.bool b1,.slice a1 l1.length c1,.bool b2,.slice a2 l2.length c2],.agg #[.bool b1',.slice a1' l1'.length c1',.bool b2',.slice a2' l2'.length c2']] w fun e w'=>e=.returned (.bool (eqI b1 b1' l1 l1'&&eqI b2 b2' l2 l2'))∧Ext w w':=by
 have k1:=mK (fun W (e:Ext w W)=>Md _ _ b1 b1' l1 l1' W h.1 h'.1 (h.2.2.1.ext e) (h'.2.2.1.ext e));have k2:=mK (fun W (e:Ext w W)=>Md _ _ b2 b2' l2 l2' W h.2.1 h'.2.1 (h.2.2.2.ext e) (h'.2.2.2.ext e));clear h h';change Hid (∀ W (e:Ext w W),Calls _ _ _ _ fun e w'=>e=.returned (.bool (eqI b1 b1' l1 l1'))∧_) at k1
 change Hid (∀ W (e:Ext w W),Calls _ _ _ _ fun e w'=>e=.returned (.bool (eqI b2 b2' l2 l2'))∧_) at k2
 generalize eqI b1 b1' l1 l1'=r1 at *;generalize eqI b2 b2' l2 l2'=r2 at *;generalize l1.length=n1 at *;generalize l2.length=n2 at *;generalize l1'.length=n1' at *;generalize l2'.length=n2' at *;obtain ⟨wb,hwb⟩:=nmE ((w.alloc (.cells #[.bool b1,.slice a1 n1 c1,.bool b2,.slice a2 n2 c2] 54)).alloc (.cells #[.bool b1',.slice a1' n1' c1',.bool b2',.slice a2' n2' c2'] 54));have hE:=mK (aLe2 hwb);have z0:=mK (aL20 hwb);have z1:=mK (aL21 hwb);replace hwb:=mK hwb;go_enter Tryz.func158,Tryz.ntmps158;go_wp2_with fail;rw [←hwb.out];clear hwb;refine (k1.out _ hE.out).mono ?_;rintro e w1 ⟨rfl,hE1⟩;replace z0:=mK (hE1.blk z0.out);replace z1:=mK (hE1.blk z1.out);replace hE:=mK (hE.out.trans hE1);clear hE1;cases r1
 ·go_wp2_with fail
  go_ret;exact ⟨rfl,hE.out⟩
 ·have y2:w1.cell? ⟨w.heap.size,2,none⟩=some (.bool b2):=Aa z0.out 2
  have x2:w1.cell? ⟨w.heap.size+1,2,none⟩=some (.bool b2'):=Aa z1.out 2;have y3:w1.cell? ⟨w.heap.size,3,none⟩=some (.slice a2 n2 c2):=Aa z0.out 3;have x3:w1.cell? ⟨w.heap.size+1,3,none⟩=some (.slice a2' n2' c2'):=Aa z1.out 3;go_wp2_with fail;clear x2 y2 x3 y3;refine (k2.out _ hE.out).mono ?_;rintro e w2 ⟨rfl,hE2⟩;replace z0:=mK (hE2.blk z0.out);replace z1:=mK (hE2.blk z1.out);replace hE:=mK (hE.out.trans hE2);clear hE2;go_wp2_with fail;go_ret;exact ⟨rfl,hE.out⟩
theorem Rp (kd kd':Int)(b1:Bool)(a1:Option Addr)(l1:List Nat)(c1:Nat)(b2:Bool)(a2:Option Addr)(l2:List Nat)(c2:Nat)(b3:Bool)(a3:Option Addr)(l3:List Nat)(c3:Nat)(b4:Bool)(a4:Option Addr)(l4:List Nat)(c4:Nat)(b1':Bool)(a1':Option Addr)(l1':List Nat)(c1':Nat)(b2':Bool)(a2':Option Addr)(l2':List Nat)(c2':Nat)(b3':Bool)(a3':Option Addr)(l3':List Nat)(c3':Nat)(b4':Bool)(a4':Option Addr)(l4':List Nat)(c4':Nat)(w:World)(h1:RawL w b1 a1 l1 c1 b2 a2 l2 c2)(h2:RawL w b3 a3 l3 c3 b4 a4 l4 c4)(h1':RawL w b1' a1' l1' c1' b2' a2' l2' c2')(h2':RawL w b3' a3' l3' c3' b4' a4' l4' c4') :
  Calls Tryz.prog 93 #[.agg #[.int .u8 kd,.bool b1,.slice a1 l1.length c1,.bool b2,.slice a2 l2.length c2,.bool b3,.slice a3 l3.length c3,.bool b4,.slice a4 l4.length c4],.agg #[.int .u8 kd',.bool b1',.slice a1' l1'.length c1',.bool b2',.slice a2' l2'.length c2',.bool b3',.slice a3' l3'.length c3',.bool b4',.slice a4' l4'.length c4']] w fun e w'=>e=.returned (.bool ((kd==kd')&&(eqI b1 b1' l1 l1'&&eqI b2 b2' l2 l2'&&(eqI b3 b3' l3 l3'&&eqI b4 b4' l4 l4'))))∧Ext w w':=by
 have k1:=mK (fun W (e:Ext w W)=>Pd b1 a1 l1 c1 b2 a2 l2 c2 b1' a1' l1' c1' b2' a2' l2' c2' W (h1.ext e) (h1'.ext e));have k2:=mK (fun W (e:Ext w W)=>Pd b3 a3 l3 c3 b4 a4 l4 c4 b3' a3' l3' c3' b4' a4' l4' c4' W (h2.ext e) (h2'.ext e));clear h1 h2 h1' h2';generalize (eqI b1 b1' l1 l1'&&eqI b2 b2' l2 l2')=r1 at *;generalize (eqI b3 b3' l3 l3'&&eqI b4 b4' l4 l4')=r2 at *;generalize l1.length=n1 at *;generalize l1'.length=n1' at *;generalize l2.length=n2 at *;generalize l2'.length=n2' at *;generalize l3.length=n3 at *;generalize l3'.length=n3' at *;generalize l4.length=n4 at *;generalize l4'.length=n4' at *;obtain ⟨wb,hwb⟩:=nmE ((w.alloc (.cells #[.int .u8 kd,.bool b1,.slice a1 n1 c1,.bool b2,.slice a2 n2 c2,.bool b3,.slice a3 n3 c3,.bool b4,.slice a4 n4 c4] 56)).alloc (.cells #[.int .u8 kd',.bool b1',.slice a1' n1' c1',.bool b2',.slice a2' n2' c2',.bool b3',.slice a3' n3' c3',.bool b4',.slice a4' n4' c4'] 56));have hE:=mK (aLe2 hwb);have z0:=mK (aL20 hwb);have z1:=mK (aL21 hwb);replace hwb:=mK hwb;obtain ⟨rk,hrk⟩:=nmE (kd==kd');rw [←hrk];cases rk
 ·have hne:(kd==kd')=false:=hrk.symm
  clear hrk;go_enter Tryz.func93,Tryz.ntmps93;go_wp2_with fail;rw [←hwb.out];go_ret;exact ⟨rfl,hE.out⟩
 have hkk:kd=kd':=by simpa using hrk.symm
 subst hkk;clear hrk;go_enter Tryz.func93,Tryz.ntmps93;go_wp2_with fail;rw [←hwb.out];clear hwb;refine (k1.out _ hE.out).mono ?_;rintro e w1 ⟨rfl,hE1⟩;replace z0:=mK (hE1.blk z0.out);replace z1:=mK (hE1.blk z1.out);replace hE:=mK (hE.out.trans hE1);clear hE1;cases r1
 ·go_wp2_with fail
  go_ret;exact ⟨rfl,hE.out⟩
 ·have y5:w1.cell? ⟨w.heap.size,5,none⟩=some (.bool b3):=Aa z0.out 5
  have x5:w1.cell? ⟨w.heap.size+1,5,none⟩=some (.bool b3'):=Aa z1.out 5;have y6:w1.cell? ⟨w.heap.size,6,none⟩=some (.slice a3 n3 c3):=Aa z0.out 6;have x6:w1.cell? ⟨w.heap.size+1,6,none⟩=some (.slice a3' n3' c3'):=Aa z1.out 6;have y7:w1.cell? ⟨w.heap.size,7,none⟩=some (.bool b4):=Aa z0.out 7;have x7:w1.cell? ⟨w.heap.size+1,7,none⟩=some (.bool b4'):=Aa z1.out 7;have y8:w1.cell? ⟨w.heap.size,8,none⟩=some (.slice a4 n4 c4):=Aa z0.out 8;have x8:w1.cell? ⟨w.heap.size+1,8,none⟩=some (.slice a4' n4' c4'):=Aa z1.out 8;go_wp2_with fail;clear x5 y5 x6 y6 x7 y7 x8 y8;refine (k2.out _ hE.out).mono ?_;rintro e w2 ⟨rfl,hE2⟩;replace z0:=mK (hE2.blk z0.out);replace z1:=mK (hE2.blk z1.out);replace hE:=mK (hE.out.trans hE2);clear hE2;go_wp2_with fail;go_ret;exact ⟨rfl,hE.out⟩
theorem Pc (nm nm':ByteArray)(kd kd' co co':Int)(b1:Bool)(a1:Option Addr)(l1:List Nat)(c1:Nat)(b2:Bool)(a2:Option Addr)(l2:List Nat)(c2:Nat)(b3:Bool)(a3:Option Addr)(l3:List Nat)(c3:Nat)(b4:Bool)(a4:Option Addr)(l4:List Nat)(c4:Nat)(b1':Bool)(a1':Option Addr)(l1':List Nat)(c1':Nat)(b2':Bool)(a2':Option Addr)(l2':List Nat)(c2':Nat)(b3':Bool)(a3':Option Addr)(l3':List Nat)(c3':Nat)(b4':Bool)(a4':Option Addr)(l4':List Nat)(c4':Nat)(w:World)(h1:RawL w b1 a1 l1 c1 b2 a2 l2 c2)(h2:RawL w b3 a3 l3 c3 b4 a4 l4 c4)(h1':RawL w b1' a1' l1' c1' b2' a2' l2' c2')(h2':RawL w b3' a3' l3' c3' b4' a4' l4' c4') :
  Calls Tryz.prog 22 #[.agg #[.string nm,.int .u8 kd,.bool b1,.slice a1 l1.length c1,.bool b2,.slice a2 l2.length c2,.bool b3,.slice a3 l3.length c3,.bool b4,.slice a4 l4.length c4,.int .i64 co],.agg #[.string nm',.int .u8 kd',.bool b1',.slice a1' l1'.length c1',.bool b2',.slice a2' l2'.length c2',.bool b3',.slice a3' l3'.length c3',.bool b4',.slice a4' l4'.length c4',.int .i64 co']] w fun e w'=>e=.returned (.bool ((nm.toList==nm'.toList)&&((kd==kd')&&(eqI b1 b1' l1 l1'&&eqI b2 b2' l2 l2'&&(eqI b3 b3' l3 l3'&&eqI b4 b4' l4 l4')))&&(co==co')))∧Ext w w':=by
 have k1:=mK (fun W (e:Ext w W)=>Rp kd kd' b1 a1 l1 c1 b2 a2 l2 c2 b3 a3 l3 c3 b4 a4 l4 c4 b1' a1' l1' c1' b2' a2' l2' c2' b3' a3' l3' c3' b4' a4' l4' c4' W (h1.ext e) (h2.ext e) (h1'.ext e) (h2'.ext e));clear h1 h2 h1' h2';generalize ((kd==kd')&&(eqI b1 b1' l1 l1'&&eqI b2 b2' l2 l2'&&(eqI b3 b3' l3 l3'&&eqI b4 b4' l4 l4')))=r1 at *;generalize l1.length=n1 at *;generalize l1'.length=n1' at *;generalize l2.length=n2 at *;generalize l2'.length=n2' at *;generalize l3.length=n3 at *;generalize l3'.length=n3' at *;generalize l4.length=n4 at *;generalize l4'.length=n4' at *;obtain ⟨wb,hwb⟩:=nmE ((w.alloc (.cells #[.string nm,.int .u8 kd,.bool b1,.slice a1 n1 c1,.bool b2,.slice a2 n2 c2,.bool b3,.slice a3 n3 c3,.bool b4,.slice a4 n4 c4,.int .i64 co] 58)).alloc (.cells #[.string nm',.int .u8 kd',.bool b1',.slice a1' n1' c1',.bool b2',.slice a2' n2' c2',.bool b3',.slice a3' n3' c3',.bool b4',.slice a4' n4' c4',.int .i64 co'] 58));have hE:=mK (aLe2 hwb);have z0:=mK (aL20 hwb);have z1:=mK (aL21 hwb);replace hwb:=mK hwb;obtain ⟨rk,hrk⟩:=nmE (nm.toList==nm'.toList);rw [←hrk];cases rk
 ·have hne:(nm.toList==nm'.toList)=false:=hrk.symm
  clear hrk;go_enter Tryz.func22,Tryz.ntmps22;go_wp2_with fail;rw [←hwb.out];go_ret;exact ⟨rfl,hE.out⟩
 have hkk:(nm.toList==nm'.toList)=true:=hrk.symm;clear hrk;go_enter Tryz.func22,Tryz.ntmps22;go_wp2_with fail;rw [←hwb.out];clear hwb;refine (k1.out _ hE.out).mono ?_;rintro e w1 ⟨rfl,hE1⟩;replace z0:=mK (hE1.blk z0.out);replace z1:=mK (hE1.blk z1.out);replace hE:=mK (hE.out.trans hE1);clear hE1;cases r1
 ·go_wp2_with fail
  go_ret;exact ⟨rfl,hE.out⟩
 ·have y10:w1.cell? ⟨w.heap.size,10,none⟩=some (.int .i64 co):=Aa z0.out 10
  have x10:w1.cell? ⟨w.heap.size+1,10,none⟩=some (.int .i64 co'):=Aa z1.out 10;go_wp2_with fail;go_ret;exact ⟨rfl,hE.out⟩
theorem De {P:Program}{S:World→Value→Prop}{o:Oper}{a:Act}{W:World}{X:Prop}{c:Prop}{ic:Decidable c}(hw:c)(ty:TypeId)(x:Operand)(ho:o.op=.load ty x)
  (g:Nat) (hx:a.eval x=.pointer (some ⟨g,0,none⟩)) (t:TypeId) (cs:Array Value) (fr:Nat×Nat) (d:TypeDesc) (hg:W.heap[g]? = some (.cells cs t fr))
  (hu:P.underlying ty=some d) (hd:(match d with | .struct _ | .array _ _=>true|_=>false)=true) (hi:(P.info? ty).map (·.size)=some cs.size)
  (h:S W (.agg cs)):if c then Bu P S ((execOp a.eval o).run P W) else X:=by
 rw [if_pos hw];unfold execOp;simp only [ho,hx,Instr.loadAt,Instr.sureAddr,Sem.run_bind,Sem.run_pure,Result.andThen_ok,run_loadVar_row W g t ty cs fr d hg hu hd hi];exact h
structure StR (g:Nat) (new:Array Value) (T:TypeId) (w w':World):Prop where
 os:w'.os=w.os
 tape:w'.tape=w.tape
 output:w'.output=w.output
 size:w.heap.size≤w'.heap.size
 block:∀ k,k<w.heap.size→k≠g→w'.heap[k]? = w.heap[k]?
 row:w'.heap[g]? = w.heap[g]?∨w'.heap[g]? = some (.cells new T (0,0))∨w.heap.size≤g
theorem StR.of_ext {g:Nat}{new:Array Value}{T:TypeId}{w w':World}(e:Ext w w'):StR g new T w w':=
 ⟨e.os,e.tape,e.output,e.size,fun k h _=>e.block k h,by
  rcases Nat.lt_or_ge g w.heap.size with h|h
  ·exact .inl (e.block g h)
  ·exact .inr (.inr h)⟩
theorem StR.refl (g:Nat)(new:Array Value)(T:TypeId)(w:World):StR g new T w w:=.of_ext (xR w)
theorem StR.trans {g:Nat}{new:Array Value}{T:TypeId}{a b c:World}(h:StR g new T a b)(k:StR g new T b c):StR g new T a c:=by
 refine ⟨k.os.trans h.os,k.tape.trans h.tape,k.output.trans h.output,nT h.size k.size,fun i hi hn=>(k.block i (Nat.lt_of_lt_of_le hi h.size) hn).trans (h.block i hi hn),?_⟩;rcases k.row with e|e|e
 ·rcases h.row with f|f|f
  ·exact .inl (e.trans f)
  ·exact .inr (.inl (e.trans f))
  ·exact .inr (.inr f)
 ·exact .inr (.inl e)
 ·exact .inr (.inr (nT h.size e))
theorem StR.blk {g k:Nat}{new:Array Value}{T:TypeId}{w w':World}{o:Obj}(h:StR g new T w w')(hk:w.heap[k]? = some o)(hne:k≠g):w'.heap[k]? = some o:=
 (h.block k (Array.getElem?_eq_some_iff.1 hk).1 hne).trans hk
theorem StR.has {g:Nat}{new old:Array Value}{T:TypeId}{w w':World}(h:StR g new T w w')(ho:w.heap[g]? = some (.cells old T (0,0))):∃ cs,w'.heap[g]? = some (.cells cs T (0,0))∧(cs=old∨cs=new):=by
 rcases h.row with e|e|e
 ·exact ⟨old,e.trans ho,.inl rfl⟩
 ·exact ⟨new,e,.inr rfl⟩
 ·have:=(Array.getElem?_eq_some_iff.1 ho).1
  omega
theorem StR.set {g:Nat}{new old:Array Value}{T:TypeId}{w:World}(ho:w.heap[g]? = some (.cells old T (0,0))):StR g new T w (w.setRow g new):=by
 refine ⟨rfl,rfl,rfl,by simp,fun k _ hne=>setRow_other _ _ _ _ hne,.inr (.inl (setRow_heap _ _ _ _ _ _ ho))⟩
theorem StR.ext {g:Nat}{new:Array Value}{T:TypeId}{b w w':World}(hb:Ext b w)(h:StR g new T w w')(hg:b.heap.size≤g):Ext b w':=
 ⟨h.os.trans hb.os,h.tape.trans hb.tape,h.output.trans hb.output,nT hb.size h.size,fun k hk=>(h.block k (Nat.lt_of_lt_of_le hk hb.size) (by omega)).trans (hb.block k hk)⟩
theorem Jl {id:Nat}{l:List Oper}{a:Act}{w:World}{Q:Exit→Act→World→Prop}(g:Nat)(new:Array Value)(T:TypeId)(specs:List FSpec)(hok:Abf specs.length a.tmps.size l=true)(hst:StableAll (StR g new T) specs)(hvo:VoidAll l specs)
  (h:freeSteps Tryz.prog l (StR g new T) w Q 0 specs l a []):(Code.region id l.toArray true).wp Tryz.prog Q a w:=
 Kz (StR g new T) specs mixed hok (StR.refl g new T) (fun _ _ _=>StR.trans) (fun w=>.of_ext ((xR w).dr)) (stableAll_mem hst) hvo h
def Rj (g:Nat)(new:Array Value)(T:TypeId)(W:World)(_:Value):Prop:=W.heap[g]? = some (.cells new T (0,0))
theorem Ma {g:Nat}{new:Array Value}{T:TypeId}{ss:List FSpec}(h:StableAll (StR g new T) ss):StableAll (StR g new T) (.pred (Rj g new T)::ss):=
 ⟨fun W W' _ e (k:W.heap[g]? = _)=>by
  show W'.heap[g]? = _
  obtain ⟨cs,h1,h2⟩:=e.has k
  rcases h2 with rfl|rfl<;>exact h1,h⟩
inductive Tok:Nat→Prop
 | mk (n:Nat):Tok n
theorem nxT (a:Nat){b:Nat}(_h:Tok a):Tok b:=.mk _
theorem Ak {w:World}{k:Nat}{o:Obj}(h:w.heap[k]? = some o):k<w.heap.size:=(Array.getElem?_eq_some_iff.1 h).1
theorem TwG.str {w w':World}{g k T:Nat}{l:List Nat}{new:Array Value}(h:TwG w g l)(e:StR k new T w w')(hne:g≠k):TwG w' g l:=⟨h.1,e.blk h.2 hne⟩
theorem Ut {P:Program}{S:World→Value→Prop}{o:Oper}{a:Act}{W:World}{X:Prop}{c:Prop}{ic:Decidable c}{ty:TypeId}{x y:Operand}{g:Nat}{t:TypeId}{old new:Array Value}(hw:c)(ho:o.op=.store ty x y)
  (hx:a.eval x=.pointer (some ⟨g,0,none⟩)) (hy:a.eval y=.agg new) (hg:W.heap[g]? = some (.cells old t (0,0))) (hi:(P.info? ty).map (·.size)=some new.size) (hs:old.size=new.size) (hc:new.all (·.oneCell')=true)
  (h:S (W.setRow g new) undef):if c then Bu P S ((execOp a.eval o).run P W) else X:=by
 rw [if_pos hw];unfold execOp;simp only [ho,hx,hy,Instr.storeAt,Instr.sureAddr,Sem.run_bind,Sem.run_pure,Result.andThen_ok,run_storeVar_row W g t ty old new hg hi hs hc];exact h
theorem Hp {P:Program}{S:World→Value→Prop}{o:Oper}{a:Act}{W wB:World}{X:Prop}{c:Prop}{ic:Decidable c}{ty:TypeId}{x y:Operand}{g:Nat}{t:TypeId}{old new:Array Value}(hw:c)(ho:o.op=.store ty x y)
  (hx:a.eval x=.pointer (some ⟨g,0,none⟩)) (hy:a.eval y=.agg new) (hB:wB.heap[g]? = some (.cells old t (0,0))) (hW:StR g new t wB W) (hi:(P.info? ty).map (·.size)=some new.size) (hs:old.size=new.size) (hc:new.all (·.oneCell')=true)
  (h:∀ W',StR g new t W W'→Rj g new t W' undef→S W' undef):if c then Bu P S ((execOp a.eval o).run P W) else X:=by
 obtain ⟨cs,hg,hcs⟩:=hW.has hB;refine Ut hw ho hx hy hg hi (by rcases hcs with rfl|rfl;exact hs;rfl) hc (h _ (StR.set hg) (setRow_heap _ _ _ _ _ _ hg))
def mayS (kd sp sq:Int):Bool:=
 if kd=1 then decide (0≤sp)&&(sq==0) else if kd=2 then sq==0 else if kd=3 then decide (0≤sp)&&decide (0<sq) else if kd=4 then true else if kd=5 then (sp==0)&&(sq==0) else false
def mayO (kd:Int):Option Rat→Option Rat→Bool
 | some p,some q=>mayS kd p.num.sign q.num.sign
 | _,_=>false
theorem Mk (kd:Int){op oq:Option Rat}(h:[op,oq].all Option.isSome=false):mayO kd op oq=false:=by
 cases op<;>cases oq<;>first|rfl|(simp at h)
theorem Aaw (kd:Int)(b1:Bool)(a1:Option Addr)(n1 c1:Nat)(b2:Bool)(a2:Option Addr)(n2 c2:Nat)(b3:Bool)(a3:Option Addr)(n3 c3:Nat)(b4:Bool)(a4:Option Addr)(n4 c4:Nat)(op oq:Option Rat)(w:World)(h1:AnyF w (.agg #[.bool b1,.slice a1 n1 c1,.bool b2,.slice a2 n2 c2]) op)(h2:AnyF w (.agg #[.bool b3,.slice a3 n3 c3,.bool b4,.slice a4 n4 c4]) oq) :
  Calls Tryz.prog 206 #[.agg #[.int .u8 kd,.bool b1,.slice a1 n1 c1,.bool b2,.slice a2 n2 c2,.bool b3,.slice a3 n3 c3,.bool b4,.slice a4 n4 c4]] w fun e w'=>e=.returned (.bool (mayO kd op oq))∧Ext w w':=by
 obtain ⟨wb,hwb⟩:=nmE (w.alloc (.cells #[.int .u8 kd,.bool b1,.slice a1 n1 c1,.bool b2,.slice a2 n2 c2,.bool b3,.slice a3 n3 c3,.bool b4,.slice a4 n4 c4] 56));have hE:=aLe1 hwb;have z0:=aL10 hwb;have hsz:=aLs1 hwb;obtain ⟨w2,hw2⟩:=nmE (wb.alloc (.cells #[.bool b1,.slice a1 n1 c1,.bool b2,.slice a2 n2 c2,.bool b3,.slice a3 n3 c3,.bool b4,.slice a4 n4 c4] 54));have hE2:=aLe1 hw2;have zS:w2.heap[w.heap.size+1]? = some (.cells #[.bool b1,.slice a1 n1 c1,.bool b2,.slice a2 n2 c2,.bool b3,.slice a3 n3 c3,.bool b4,.slice a4 n4 c4] 54 (0,0)):=by rw [hw2,←hsz];exact heap_alloc_new _ _
 have H1:=mK (fun W (e:Ext w W)=>h1.ext e);have H2:=mK (fun W (e:Ext w W)=>h2.ext e);have HC:=Agb (w.heap.size+1) 2 [op,oq] w2 (by simp) (Afo zS (h1.ext (hE.trans hE2)) (h2.ext (hE.trans hE2)));have z02:=mK (hE2.blk z0);replace z0:=mK z0;replace hE:=mK (hE.trans hE2);replace hwb:=mK hwb;replace hw2:=mK hw2;replace hsz:=mK hsz;clear hE2 zS;cases hb:[op,oq].all Option.isSome with
 | false=>
  rw [hb] at HC;rw [Mk kd hb];replace HC:=mK HC;clear hb h1 h2 H1 H2;go_enter Tryz.func206,Tryz.ntmps206;have tok:Tok 0:=.mk _
  go_wp2_with (first
   | (replace tok:Tok 1:=nxT 0 tok;rw [←hwb.out];refine Ab (by rfl) 54 (.tmp 5) rfl (w.heap.size) 1 rfl 56 #[.int .u8 kd,.bool b1,.slice a1 n1 c1,.bool b2,.slice a2 n2 c2,.bool b3,.slice a3 n3 c3,.bool b4,.slice a4 n4 c4] #[.bool b1,.slice a1 n1 c1,.bool b2,.slice a2 n2 c2] (0,0) _ z0.out rfl Tryz.underlying54 rfl (by kernel_rfl) ?_)
   | (replace tok:Tok 2:=nxT 1 tok;refine Ab (by rfl) 54 (.tmp 7) rfl (w.heap.size) 5 rfl 56 #[.int .u8 kd,.bool b1,.slice a1 n1 c1,.bool b2,.slice a2 n2 c2,.bool b3,.slice a3 n3 c3,.bool b4,.slice a4 n4 c4] #[.bool b3,.slice a3 n3 c3,.bool b4,.slice a4 n4 c4] (0,0) _ z0.out rfl Tryz.underlying54 rfl (by kernel_rfl) ?_)
   | (replace tok:Tok 3:=nxT 2 tok;go_at_call 248;rw [←hw2.out,hsz.out];refine HC.out.mono ?_;rintro e w3 ⟨rfl,hx⟩;replace hE:=mK (hE.out.trans hx);replace z0:=mK (hx.blk z02.out);clear hx z02))
  go_ret;exact ⟨rfl,hE.out⟩
 | true=>
  obtain ⟨p,rfl⟩:∃ p,op=some p:=by cases op with
   | none=>simp at hb
   | some p=>exact ⟨p,rfl⟩
  obtain ⟨q,rfl⟩:∃ q,oq=some q:=by cases oq with
   | none=>simp at hb
   | some q=>exact ⟨q,rfl⟩
  rw [hb] at HC;replace HC:=mK HC;obtain ⟨f1,k1⟩:=h1.frac;obtain ⟨f2,k2⟩:=h2.frac;have S1:=mK (fun W (e:Ext w W)=>Aef _ p W (nT k1 (by decide)) (f1.ext e));have S2:=mK (fun W (e:Ext w W)=>Aef _ q W (nT k2 (by decide)) (f2.ext e));rw [show mayO kd (some p) (some q)=mayS kd p.num.sign q.num.sign from rfl];generalize p.num.sign=sp at *;generalize q.num.sign=sq at *;clear hb h1 h2 H1 H2 f1 f2 k1 k2;go_enter Tryz.func206,Tryz.ntmps206;have tok:Tok 4:=.mk _
  go_wp2_with (first
   | (replace tok:Tok 5:=nxT 4 tok;rw [←hwb.out];refine Ab (by rfl) 54 (.tmp 5) rfl (w.heap.size) 1 rfl 56 #[.int .u8 kd,.bool b1,.slice a1 n1 c1,.bool b2,.slice a2 n2 c2,.bool b3,.slice a3 n3 c3,.bool b4,.slice a4 n4 c4] #[.bool b1,.slice a1 n1 c1,.bool b2,.slice a2 n2 c2] (0,0) _ z0.out rfl Tryz.underlying54 rfl (by kernel_rfl) ?_)
   | (replace tok:Tok 6:=nxT 5 tok;refine Ab (by rfl) 54 (.tmp 7) rfl (w.heap.size) 5 rfl 56 #[.int .u8 kd,.bool b1,.slice a1 n1 c1,.bool b2,.slice a2 n2 c2,.bool b3,.slice a3 n3 c3,.bool b4,.slice a4 n4 c4] #[.bool b3,.slice a3 n3 c3,.bool b4,.slice a4 n4 c4] (0,0) _ z0.out rfl Tryz.underlying54 rfl (by kernel_rfl) ?_)
   | (replace tok:Tok 7:=nxT 6 tok;go_at_call 248;rw [←hw2.out,hsz.out];refine HC.out.mono ?_;rintro e w3 ⟨rfl,hx⟩;replace hE:=mK (hE.out.trans hx);replace z0:=mK (hx.blk z02.out);clear hx z02))
  apply Ad [.val (.pointer (some ⟨w.heap.size,1,none⟩)),.val (.agg #[.bool b1,.slice a1 n1 c1,.bool b2,.slice a2 n2 c2]),.val (.int .i64 sp),.val (.pointer (some ⟨w.heap.size,5,none⟩)),.val (.agg #[.bool b3,.slice a3 n3 c3,.bool b4,.slice a4 n4 c4]),.val (.int .i64 sq)] (by kernel_rfl) (stable_vals _ (stable_vals _ (stable_vals _ (stable_vals _ (stable_vals _ (stable_vals _ trivial))))));refine ⟨fun W hW _=>by go_simp;first|exact ⟨xR _,rfl⟩|exact xR _,?_⟩;refine ⟨?l1,?_⟩
  case l1=>
   intro W hW hF;have hr:=hW.blk z0.out;with_reducible refine Ct ?zhw 54 (.tmp 12) ?zho w.heap.size 1 ?zhx 56 _ #[.bool b1,.slice a1 n1 c1,.bool b2,.slice a2 n2 c2] (0,0) _ hr ?zhs Tryz.underlying54 ?zhd ?zhi ?zh
   case zhw=>kernel_rfl
   case zho=>rfl
   case zhx=>kernel_rfl
   case zhs=>rfl
   case zhd=>rfl
   case zhi=>kernel_rfl
   case zh=>exact ⟨xR _,rfl⟩
  refine ⟨fun W hW _=>?s1,?_⟩
  case s1=>
   go_simp;refine (S1.out W (hE.out.trans hW)).mono ?_;rintro e w' ⟨rfl,hx⟩;exact ⟨rfl,hx⟩
  refine ⟨fun W hW _=>by go_simp;first|exact ⟨xR _,rfl⟩|exact xR _,?_⟩;refine ⟨?l2,?_⟩
  case l2=>
   intro W hW hF;have hr:=hW.blk z0.out;with_reducible refine Ct ?zhw 54 (.tmp 15) ?zho w.heap.size 5 ?zhx 56 _ #[.bool b3,.slice a3 n3 c3,.bool b4,.slice a4 n4 c4] (0,0) _ hr ?zhs Tryz.underlying54 ?zhd ?zhi ?zh
   case zhw=>kernel_rfl
   case zho=>rfl
   case zhx=>kernel_rfl
   case zhs=>rfl
   case zhd=>rfl
   case zhi=>kernel_rfl
   case zh=>exact ⟨xR _,rfl⟩
  refine ⟨fun W hW _=>?s2,fun W hW _=>?fin⟩
  case s2=>
   go_simp;refine (S2.out W (hE.out.trans hW)).mono ?_;rintro e w' ⟨rfl,hx⟩;exact ⟨rfl,hx⟩
  case fin=>
   replace z0:=hW.blk z0.out;replace hE:=mK (hE.out.trans hW);have y0:=Aa z0 0;replace y0:W.cell? ⟨w.heap.size,0,none⟩=some (.int .u8 kd):=y0;clear hW z0 S1 S2 HC;go_simp;by_cases k1:kd=1
   ·subst k1
    by_cases hs:0≤sp
    ·have e1:decide (0≤sp)=true:=by simp [hs]
     go_wp2_with fail;go_ret;exact ⟨by simp [mayS,hs],hE.out⟩
    ·have e1:decide (0≤sp)=false:=by simp [hs]
     go_wp2_with fail;go_ret;exact ⟨by simp [mayS];intro h;omega,hE.out⟩
   by_cases k2:kd=2
   ·subst k2
    go_wp2_with fail;go_ret;exact ⟨by simp [mayS],hE.out⟩
   by_cases k3:kd=3
   ·subst k3
    by_cases hs:0≤sp
    ·have e1:decide (0≤sp)=true:=by simp [hs]
     go_wp2_with fail;go_ret;exact ⟨by simp [mayS,hs],hE.out⟩
    ·have e1:decide (0≤sp)=false:=by simp [hs]
     go_wp2_with fail;go_ret;exact ⟨by simp [mayS];intro h;omega,hE.out⟩
   by_cases k4:kd=4
   ·subst k4
    go_wp2_with fail;go_ret;exact ⟨by simp [mayS],hE.out⟩
   by_cases k5:kd=5
   ·subst k5
    by_cases hs:sp=0
    ·subst hs
     go_wp2_with fail;go_ret;exact ⟨by simp [mayS],hE.out⟩
    ·have e1:(sp==0)=false:=by simpa using hs
     go_wp2_with fail;go_ret;exact ⟨by simp [mayS,hs],hE.out⟩
   have d1:(kd==1)=false:=by simpa using k1
   have d2:(kd==2)=false:=by simpa using k2
   have d3:(kd==3)=false:=by simpa using k3
   have d4:(kd==4)=false:=by simpa using k4
   have d5:(kd==5)=false:=by simpa using k5
   go_wp2_with fail;go_ret;exact ⟨by simp [mayS,k1,k2,k3,k4,k5],hE.out⟩
theorem Vb (kd:Int)(b1:Bool)(a1:Option Addr)(n1 c1:Nat)(b2:Bool)(a2:Option Addr)(n2 c2:Nat)(b3:Bool)(a3:Option Addr)(n3 c3:Nat)(b4:Bool)(a4:Option Addr)(n4 c4:Nat)(op oq:Option Rat)(g:Nat)(w:World)(h1:AnyF w (.agg #[.bool b1,.slice a1 n1 c1,.bool b2,.slice a2 n2 c2]) op)(h2:AnyF w (.agg #[.bool b3,.slice a3 n3 c3,.bool b4,.slice a4 n4 c4]) oq)(hg:w.heap[g]? = some (.cells #[.int .u8 kd,.bool b1,.slice a1 n1 c1,.bool b2,.slice a2 n2 c2,.bool b3,.slice a3 n3 c3,.bool b4,.slice a4 n4 c4] 56 (0,0))) :
  Calls Tryz.prog 157 #[.slice (some ⟨g,0,none⟩) 1 1] w fun e w'=>e=.returned (.int .i64 (if mayO kd op oq then 0 else 1))∧Ext w w':=by
 have M:=mK (fun W (e:Ext w W)=>Aaw kd b1 a1 n1 c1 b2 a2 n2 c2 b3 a3 n3 c3 b4 a4 n4 c4 op oq W (h1.ext e) (h2.ext e));have z0:=mK hg;clear h1 h2 hg;obtain ⟨w2,hw2⟩:=nmE (w.alloc (.cells #[.int .u8 kd,.bool b1,.slice a1 n1 c1,.bool b2,.slice a2 n2 c2,.bool b3,.slice a3 n3 c3,.bool b4,.slice a4 n4 c4] 56));have hE:=mK (aLe1 hw2);have zV:=mK (aL10 hw2);replace hw2:=mK hw2;cases hm:mayO kd op oq<;>rw [hm] at M
 all_goals
  clear hm;go_enter Tryz.func157,Tryz.ntmps157;go_wp2_with fail;refine wp_loop_rounds 2 ?_;rw [rounds_succ];have tok:Tok 8:=.mk _
  go_wp2_with (first
   | (replace tok:Tok 9:=nxT 8 tok;refine wpList_load_row (by rfl) 56 (.tmp 12) rfl (g) rfl 56 #[.int .u8 kd,.bool b1,.slice a1 n1 c1,.bool b2,.slice a2 n2 c2,.bool b3,.slice a3 n3 c3,.bool b4,.slice a4 n4 c4] (0,0) _ z0.out Tryz.underlying56 rfl (by kernel_rfl) ?_)
   | (replace tok:Tok 10:=nxT 9 tok;rw [←hw2.out];refine wpList_load_row (by rfl) 56 (.tmp 4) rfl (w.heap.size) rfl 56 #[.int .u8 kd,.bool b1,.slice a1 n1 c1,.bool b2,.slice a2 n2 c2,.bool b3,.slice a3 n3 c3,.bool b4,.slice a4 n4 c4] (0,0) _ zV.out Tryz.underlying56 rfl (by kernel_rfl) ?_)
   | (replace tok:Tok 11:=nxT 10 tok;go_at_call 206;refine (M.out _ hE.out).mono ?_;rintro e w3 ⟨rfl,hx⟩;replace hE:=mK (hE.out.trans hx);clear hx))
 ·go_ret
  exact ⟨rfl,hE.out⟩
 ·rw [rounds_succ]
  go_wp2_with fail;go_ret;exact ⟨rfl,hE.out⟩
def mayP (kd co:Int)(op oq:Option Rat):Bool:=decide (0≤co)&&(decide (co≤1073741824)&&mayO kd op oq)
theorem Ajs (nm:ByteArray)(kd co:Int)(b1:Bool)(a1:Option Addr)(n1 c1:Nat)(b2:Bool)(a2:Option Addr)(n2 c2:Nat)(b3:Bool)(a3:Option Addr)(n3 c3:Nat)(b4:Bool)(a4:Option Addr)(n4 c4:Nat)(op oq:Option Rat)(w:World)(h1:AnyF w (.agg #[.bool b1,.slice a1 n1 c1,.bool b2,.slice a2 n2 c2]) op)(h2:AnyF w (.agg #[.bool b3,.slice a3 n3 c3,.bool b4,.slice a4 n4 c4]) oq) :
  Calls Tryz.prog 91 #[.agg #[.string nm,.int .u8 kd,.bool b1,.slice a1 n1 c1,.bool b2,.slice a2 n2 c2,.bool b3,.slice a3 n3 c3,.bool b4,.slice a4 n4 c4,.int .i64 co]] w fun e w'=>e=.returned (.bool (mayP kd co op oq))∧Ext w w':=by
 obtain ⟨wb,hwb⟩:=nmE (w.alloc (.cells #[.string nm,.int .u8 kd,.bool b1,.slice a1 n1 c1,.bool b2,.slice a2 n2 c2,.bool b3,.slice a3 n3 c3,.bool b4,.slice a4 n4 c4,.int .i64 co] 58));have hE:=aLe1 hwb;have z0:=aL10 hwb;have hsz:=aLs1 hwb;obtain ⟨w2,hw2⟩:=nmE (wb.alloc (.cells #[.int .u8 kd,.bool b1,.slice a1 n1 c1,.bool b2,.slice a2 n2 c2,.bool b3,.slice a3 n3 c3,.bool b4,.slice a4 n4 c4] 56));have hE2:=aLe1 hw2;have zS:w2.heap[w.heap.size+1]? = some (.cells #[.int .u8 kd,.bool b1,.slice a1 n1 c1,.bool b2,.slice a2 n2 c2,.bool b3,.slice a3 n3 c3,.bool b4,.slice a4 n4 c4] 56 (0,0)):=by rw [hw2,←hsz];exact heap_alloc_new _ _
 have M:=mK (Vb kd b1 a1 n1 c1 b2 a2 n2 c2 b3 a3 n3 c3 b4 a4 n4 c4 op oq (w.heap.size+1) w2 (h1.ext (hE.trans hE2)) (h2.ext (hE.trans hE2)) zS);have y10:=Aa z0 10;replace y10:wb.cell? ⟨w.heap.size,10,none⟩=some (.int .i64 co):=y10;have hE':=mK (hE.trans hE2);replace z0:=mK z0;replace hwb:=mK hwb;replace hw2:=mK hw2;replace hsz:=mK hsz;replace hE:=mK hE;clear h1 h2 hE2 zS;by_cases cc1:0≤co
 ·by_cases cc2:co≤1073741824
  ·have ev:mayP kd co op oq=mayO kd op oq:=by simp [mayP,cc1,cc2]
   rw [ev];clear ev;cases hm:mayO kd op oq<;>rw [hm] at M
   all_goals
    clear hm;go_enter Tryz.func91,Tryz.ntmps91;have tok:Tok 12:=.mk _;go_wp2_with (replace tok:Tok 13:=nxT 12 tok;go_at_call 157;rw [←hwb.out,←hw2.out];refine M.out.mono ?_;rintro e w3 ⟨rfl,hx⟩;replace hE':=mK (hE'.out.trans hx);clear hx);go_ret;exact ⟨rfl,hE'.out⟩
  ·have ev:mayP kd co op oq=false:=by simp [mayP,cc2]
   rw [ev];clear ev M;go_enter Tryz.func91,Tryz.ntmps91;clear y10;go_wp2_with fail;go_ret;exact ⟨rfl,(xR _).al _⟩
 ·have ev:mayP kd co op oq=false:=by simp [mayP,cc1]
  rw [ev];clear ev M;go_enter Tryz.func91,Tryz.ntmps91;clear y10;go_wp2_with fail;go_ret;exact ⟨rfl,(xR _).al _⟩
theorem Aar {X R:Nat}:(((X:Int)-R).sign<0)↔X<R:=by
 rcases Nat.lt_trichotomy X R with h|h|h
 ·rw [Oz h];omega
 ·rw [Pb h];omega
 ·rw [Pa h];omega
theorem Ae6 {w:World}{base E n:Nat}{v:Value}{xs:List Value}(h:w.ownsRow base E 1 v n xs)(hn:n≠0):∃ g c,v=.slice (some ⟨g,0,none⟩) n c∧base≤g∧n≤c∧∀ j,j<xs.length→w.cell? ⟨g,0+j,none⟩=some (xs.getD j undef):=by
 obtain ⟨h1,h2⟩:=h;rcases h2 with ⟨rfl,h3⟩|⟨g,cap,cur,rfl,a2,a3,a4,a5,a6,a7⟩
 ·exact absurd h3 hn
 ·refine ⟨g,cap,rfl,a2,a4,fun j hj=>?_⟩
  have hj2:j<cur.size:=by omega
  have e:xs.getD j undef=cur[j]:=by
   subst a7;simp [List.getD_eq_getElem?_getD,show j<n by omega,hj2]
  rw [e];simp [World.cell?,a3,hj2]
theorem Tx {w:World}{g o c N:Nat}(h:Row w (some ⟨g,o,none⟩) (limV (lim N)))(hc:(lim N).length≤c):RestR w (.slice (some ⟨g,o,none⟩) (lim N).length c) N:=by
 obtain ⟨b,off,h1,h2⟩:=h;by_cases h0:limV (lim N)=[]
 ·refine .inr ⟨g,o,c,rfl,hc,fun j hj=>?_⟩
  rw [h0] at hj;simp at hj
 ·have:=h1 h0
  simp only [Option.some.injEq,Addr.mk.injEq] at this;obtain ⟨rfl,rfl,-⟩:=this;exact .inr ⟨_,_,c,rfl,hc,h2⟩
theorem Ra {w:World}{p q:Addr}{v:Value}(h:p.block≠q.block):(w.setCell p v).cell? q=w.cell? q:=by
 unfold World.setCell World.cell?
 simp only [Array.getElem?_modify,if_neg h]
theorem Row.set_other {w:World}{g o:Nat}{xs:List Value}(h:Row w (some ⟨g,o,none⟩) xs){p:Addr}(v:Value)(hp:p.block≠g):Row (w.setCell p v) (some ⟨g,o,none⟩) xs:=by
 obtain ⟨b,off,h1,h2⟩:=h;by_cases h0:xs=[]
 ·subst h0
  exact ⟨b,off,fun h=>absurd rfl h,fun j hj=>by simp at hj⟩
 ·have:=h1 h0
  simp only [Option.some.injEq,Addr.mk.injEq] at this;obtain ⟨rfl,rfl,-⟩:=this;exact ⟨_,_,fun _=>rfl,fun j hj=>by rw [Ra hp];exact h2 j hj⟩
theorem Ade (x:Nat)(l:List Nat):limV (x::l)=[.int .u32 (x:Int)]++limV l:=rfl
theorem Pm (a a':Option Addr)(c c':Nat)(A D:Nat)(w:World)(hl:(lim A).length≤536870912)(hm:(lim D).length≤536870912)(hD:4294967296≤D)
  (h:Row w a (limV (lim A))) (h':Row w a' (limV (lim D))) :
  Calls Tryz.prog 256 #[.slice a (lim A).length c,.slice a' (lim D).length c'] w fun e w'=>∃ v1 v2,e=.returned (.tuple #[v1,v2])∧RestR w' v1 (A/D)∧RestR w' v2 (A%D)∧Ext w w'∧NewV w.heap.size v1:=by
 have h1:((((lim D).length:Nat):Int)==1)=false:=by
  rw [beq_eq_false_iff_ne];intro e;have:=Dk D;rw [show (lim D).length=1 by omega] at this;omega
 have h':=mK h';obtain ⟨b,off,ha,hc⟩:=h;replace ha:=mK ha;replace hc:=mK hc;have okl:=Ap A;have hvl:=mK (Aj A);obtain ⟨l,hle⟩:=nmE (lim A);rw [←hle] at hl ha hc okl hvl ⊢;clear hle;have hmk:=fun w=>make32 l.length w (by omega);have hst:=mK (Aam l (show 0<D by omega));obtain ⟨nd,hnd⟩:=nmE ((lim D).length);replace hnd:=mK hnd;have hD:=mK hD;rw [←hnd.out] at hm h1 ⊢;obtain ⟨i0,hi,hz0,hz1,hz2⟩:=info_parts Dp;go_enter Tryz.func256,Tryz.ntmps256;go_wp2_with fail;go_loopw [9,10,11,12] (fun s i _ _ wr=>∃ k r q,k≤l.length∧i=.int .i64 ((k:Int)-1)∧RestR wr s r∧Blk wr w.heap.size q∧DivJ l D q k r∧Ext w wr) (fun _ i _ _ _=>(intOf i+1).toNat)
 case atStart=>exact ⟨l.length,0,_,nR _,rfl,.inl ⟨rfl,rfl⟩,Uz _ _,hst.out,(xR w).al _⟩
 case round=>
  obtain ⟨k,r,q,hk,rfl,hrest,hB,hj,he⟩:=hrel;obtain ⟨wo,rfl⟩:=nmE (wr:World);cases k with
  | zero=>
   obtain ⟨e1,e2⟩:=Af7 hj;rw [hvl.out] at e1 e2;have hown:=hB.own (by have:=hj.1;omega);have hRR:=RestR.of (hown.lim hj.2.1);obtain ⟨aa,cc,he0,hle,hrow⟩:=hown.r;simp only [Value.slice.injEq] at he0;obtain ⟨rfl,-,rfl⟩:=he0;have hcall:=fun w' (e:Row w' (some ⟨w.heap.size,0,none⟩) (limV q))=>Fv (some ⟨w.heap.size,0,none⟩) q q.length w' hj.2.1 (by have:=hj.1;omega) hle e;rw [e1] at hRR hcall;rw [hj.1] at hcall hRR;rw [e2] at hrest;replace hcall:=mK hcall;replace hRR:=mK hRR;replace hrow:=mK hrow;replace hj:=mK hj;replace he:=mK he;replace hrest:=mK hrest;replace e1:=mK e1;replace e2:=mK e2;clear hown hB;go_wp2_with fail;refine (hcall.out _ hrow.out).mono ?_;rintro e w' ⟨rfl,rfl⟩;go_wp2_with fail;go_ret2;exact ⟨_,_,rfl,hRR.out,hrest.out,he.out,fun g hg=>by cases hg;exact nR _⟩
  | succ k=>
   rw [show (((k+1:Nat)):Int)-1=(k:Int) by omega];have hcl:=he.cell (Bx hc.out (show k<l.length by omega));have hA:=ha.out (At (show k<l.length by omega));rw [hA];have hx:=Ag okl k;have hq1:=hj.1;have hnext:=Ado hj (by omega) okl;have hsame:=fun n hn=>Adp (n:=n) hj (by omega) hn;have hrD:=hj.2.2.1;obtain ⟨x,hxe⟩:=nmE (l.getD k 0);rw [←hxe] at hcl hx hnext;have happ:=hrest.app;have hrl:(lim r).length≤536870912:=by have:=An (Nat.le_of_lt hrD);have:=hnd.out;omega
   replace hA:=mK hA;replace hnext:=mK hnext;replace hsame:=mK hsame;replace hj:=mK hj;replace hrD:=mK hrD;replace he:=mK he;replace hB:=mK hB;replace hxe:=mK hxe;replace happ:=mK happ;replace hrest:=mK hrest;go_wp2_with (at_builtin;refine wpList_append_own _ rfl (.tmp 38) (.tmp 43) 50 rfl wo.heap.size 136 i0 (.int .u32 0) 1 4 Bf hi hz0 hz1 hz2 rfl (by decide) _ 0 [] rfl (World.ownsRow_nil _ _ _ _) ⟨wo.heap.size,0,none⟩ 1 1 [.int .u32 (x:Int)] rfl rfl Df Fb ?c3 ?c4 ?c5 ?_)
   case c3=>decide
   case c4=>decide
   case c5=>simp
   intro v1 w1 hown hgrow _;have he1:Ext wo w1:=((xR _).al _).gr hgrow (fun k hk=>by simp [Value.ownBlock] at hk);replace happ:=mK (happ.out.ext he1);replace hown:w1.ownsRow wo.heap.size 136 1 v1 1 [.int .u32 (x:Int)]:=hown;replace hown:=mK hown;replace he1:=mK he1;clear hgrow;have hrl2:(limV (lim r)).length=(lim r).length:=Ah _;go_wp2_with (at_builtin;refine Fl rfl (.tmp 45) (.tmp 46) 50 rfl wo.heap.size 136 i0 (.int .u32 0) 4 Bf hi hz0 hz1 hz2 rfl _ 1 [.int .u32 (x:Int)] rfl hown.out (limV (lim r)) happ.out (Lf _) ?d3 ?d4 ?d5 ?_)
   case d3=>unfold maxLen;omega
   case d4=>omega
   case d5=>exact he1.out.size
   intro v2 w2 hown2 hgrow2;have he2:Ext wo w2:=he1.out.gr hgrow2 (fun k hk=>(World.ownsRow.lt hown.out k hk).1);replace hrl2:=mK hrl2;obtain ⟨g,c2,rfl,hg,hgc,hcells⟩:=Ae6 hown2 (by omega);obtain ⟨nx,hnx⟩:=nmE (1+(lim r).length);rw [←hnx] at hgc ⊢;have hrow2:Row w2 (some ⟨g,0,none⟩) (limV (x::lim r)):=⟨g,0,fun _=>rfl,by rw [Ade];exact hcells⟩
   have okx:OkL (x::lim r):=okL_cons.2 ⟨hx,Ap r⟩;have hvx:val (x::lim r)=x+4294967296*r:=by simp only [val,Aj]
   have hlx:(x::lim r).length=nx:=by rw [hnx,List.length_cons];omega
   have htr:=Fv (some ⟨g,0,none⟩) (x::lim r) c2 w2 okx (by rw [hlx];omega) (by rw [hlx];omega) hrow2;have hrow3:=hrow2.lim okx;rw [hvx] at htr hrow3;rw [hlx] at htr;have hln:=Cs okx;rw [hvx,hlx] at hln;have hB2:=hB.out.ext he2;obtain ⟨N,hN⟩:=nmE (x+4294967296*r);rw [←hN] at htr hrow3 hln hnext
   have hND:N<D*4294967296:=by
    have:=Nat.mul_le_mul_right 4294967296 (show r+1≤D from hrD.out);omega
   replace hN:=mK hN;have hnx1:nx≤536870913:=by omega
   replace hnx:=mK hnx;replace htr:=mK htr;have hcmp:=mK (fun W (e:Ext w2 W)=>Po (some ⟨g,0,none⟩) a' c2 c' N D W (by omega) (by have:=hnd.out;omega) (hrow3.ext e) (h'.out.ext (he.out.trans (he2.trans e))));have hfit:=mK (fun W (e:Ext w2 W)=>Za (some ⟨g,0,none⟩) a' c2 c' N D W (by omega) (by have:=hnd.out;omega) (by have:=hD.out;omega) hND (hrow3.ext e) (h'.out.ext (he.out.trans (he2.trans e))));rw [←hnd.out] at hcmp hfit;replace hrow3:=mK hrow3;replace hB2:=mK hB2;replace he2:=mK he2;replace hND:=mK hND;clear hown hown2 hgrow2 hrow2 hcells okx hvx hlx he1 happ;go_wp2_with fail;refine htr.out.mono ?_;rintro e w' ⟨rfl,rfl⟩;go_wp2_with fail;refine (hcmp.out w2 (xR _)).mono ?_;rintro e w3 ⟨rfl,he3⟩;have hcl2:=Aar (X:=N) (R:=D);have hcb:=Eh (X:=N) (R:=D);generalize ((N:Int)-(D:Int)).sign=S at *;replace hcl2:=mK hcl2;have he23:=mK (he2.out.trans he3);have hB3:=mK (hB2.out.ext he3);by_cases hS:S<0
   ·have hlt:=hcl2.out.1 hS
    have e0:N/D=0:=Nat.div_eq_of_lt hlt;have e1:N%D=N:=Nat.mod_eq_of_lt hlt;rw [e0,e1] at hnext;have hs:=hsame.out 0 rfl;have hn2:=hnext.out;rw [hs] at hn2;replace hn2:=mK hn2;have hRN:Hid (RestR w3 (.slice (some ⟨g,0,none⟩) (lim N).length c2) N):=Tx (hrow3.out.ext he3) (by omega);replace he3:=mK he3;replace hlt:=mK hlt;clear e0 e1 hs;go_wp2_with fail;go_roundw
    case rel=>exact ⟨k,_,_,by omega,rfl,hRN.out,hB3.out,hn2.out,he.out.trans he23.out⟩
    case measure=>simp [intOf]<;>omega
   ·have hge:D≤N:=by have:=hcl2.out;omega
    have hQ32:N/D<4294967296:=Nat.div_lt_of_lt_mul hND.out;have hsub:=Nat.div_mul_le_self N D;have hfr:=hB3.out.frozen k;have hold:=hB3.out.cell (k:=k) (by omega);replace hfit:=mK (hfit.out w3 he3);replace hcl2:=mK hcl2;replace hge:=mK hge;go_wp2_with fail;refine hfit.out.mono ?_;rintro e w4 ⟨rfl,he4⟩;obtain ⟨Q,hQ⟩:=nmE (N/D);have hmod:N%D=N-D*Q:=by rw [hQ];exact Nat.mod_eq_sub_mul_div ..
    rw [←hQ] at hnext hQ32 hsub ⊢;rw [hmod] at hnext;rw [Nat.mul_comm] at hsub;have hB4:=hB3.out.ext he4;have hfr:=hB4.frozen k;have hold:=hB4.cell (k:=k) (by omega);have hB5:=hB4.set k Q;have he5:=(he.out.trans (he23.out.trans he4)).st (p:=⟨w.heap.size,k,none⟩) (nR _) (.int .u32 ((Q:Nat):Int));have hwg:w.heap.size≠g:=by have:=(Array.getElem?_eq_some_iff.1 hB.out).1;omega
    have hrow5:=(hrow3.out.ext (he3.trans he4)).set_other (p:=⟨w.heap.size,k,none⟩) (.int .u32 ((Q:Nat):Int)) hwg;have htm:=Pf a' c' (lim D) Q _ (by have:=hnd.out;omega) (Ap D) hQ32 (h'.out.ext he5);rw [Aj,←hnd.out] at htm;replace htm:=mK htm;replace hQ:=mK hQ;replace hmod:=mK hmod;replace hB5:=mK hB5;replace he5:=mK he5;replace hrow5:=mK hrow5;replace hsub:=mK hsub;clear hB4 he4 hfit hcmp;go_wp2_with fail;refine htm.out.mono ?_;rintro e w6 ⟨v6,rfl,hv6,he6⟩;obtain ⟨a6,c6,rfl,hle6,hrow6⟩:=hv6.r;have hsb:=Yx (some ⟨g,0,none⟩) a6 c2 c6 (lim N) (lim (D*Q)) w6 (by omega) (An hsub.out) (Ap _) (Ap _) (by rw [Aj,Aj];exact hsub.out) (hrow5.out.ext he6) hrow6;rw [Aj,Aj] at hsb;replace hsb:=mK hsb;replace hB5:=mK (hB5.out.ext he6);replace he5:=mK (he5.out.trans he6);clear hv6 hrow6 he6 htm hrow5;go_wp2_with fail;refine hsb.out.mono ?_;rintro e w7 ⟨v7,rfl,hv7,he7⟩;have hR7:=mK (RestR.of hv7);replace hB5:=mK (hB5.out.ext he7);replace he5:=mK (he5.out.trans he7);clear hv7 he7 hsb;go_wp2_with fail;go_roundw
    case rel=>exact ⟨k,_,_,by omega,rfl,hR7.out,hB5.out,hnext.out,he5.out⟩
    case measure=>simp [intOf]<;>omega
theorem Acl (a a':Option Addr)(c c':Nat)(A D:Nat)(w:World)(hl:(lim A).length≤536870912)(hm:(lim D).length≤536870912)(hD:0<D)
  (h:Row w a (limV (lim A))) (h':Row w a' (limV (lim D))) :
  Calls Tryz.prog 256 #[.slice a (lim A).length c,.slice a' (lim D).length c'] w fun e w'=>∃ v1 v2,e=.returned (.tuple #[v1,v2])∧RestR w' v1 (A/D)∧RestR w' v2 (A%D)∧Ext w w'∧NewV w.heap.size v1:=by
 by_cases h1:D<4294967296
 ·exact Rt a a' c c' A D w (by omega) hD h1 h h'
 ·exact Pm a a' c c' A D w hl hm (by omega) h h'
end Go.Proofs.YteogdoglboddhaaGreatDoor
