/-
  law25: asked, of a catalogue that is there, kind by kind: printed by tools/gen_plays.py. law25: asked, of a catalogue that is there, Put: printed by tools/gen_plays.py. law01: ElementSize, PartsSize of one part: printed by tools/gen_size.py. law25: beyond, of a script of one op: printed by tools/gen_beyond.py. What comes in: a list of ops as data. law25: beyond, of any script: printed by tools/gen_beyondl.py. Apart of a Book of limbs and parts (printed by tools/gen_apart2.py). The Book's Int, Frac, Element, Part: lists that wait are kept one behind the other.
-/
import Derived.Test.YteogdoglboddhaaGreatDoorPAO
import Derived.Test.YteogdoglboddhaaGreatDoorPAL
import Derived.Test.YteogdoglboddhaaGreatDoorPAG
import Derived.Test.YteogdoglboddhaaGreatDoorPAE
import Derived.LoopN
import Derived.Test.YteogdoglboddhaaGreatDoorPAF
set_option maxHeartbeats 6400000
namespace Go.Proofs.YteogdoglboddhaaGreatDoor
set_option maxRecDepth 100000
open Go Go.RowKit Go.Proofs
theorem Ac9 (w:World)(g M:Nat)(es rs:List (PD×Value))(la:Option Addr)(ln lc:Nat)(h:Two w g M es (.slice la ln lc) rs)(ht:Tab10 w)(v0 v1 v2 v3 v4 v5 v6 v7 v8 v9 v10:Value)(nm:ByteArray)(u0 u1 u2 u3:Value) :
  Calls Tryz.prog 6 #[.pointer (some ⟨g,0,none⟩),.agg #[.bool false,.slice la ln lc],.agg #[.int .u8 4,v0,v1,v2,v3,v4,v5,v6,v7,v8,v9,v10,.string nm,u0,u1,u2,u3]] w (AskQ w g M es (.slice la ln lc) rs):=by
 have hD:Am rs=Am es:=h.same;have h0:=mK h;have KA:=fun W (e:Ext w W)=>Aiz W g M es (h.ext e).cat (Cx ht e);have KB:=fun W (e:Ext w W)=>Ag4 W (.slice la ln lc) rs (h.ext e).ref;rw [hD] at KB;generalize (Nk (Am es)).1=S at KA KB;generalize (Nk (Am es)).2=C at KA KB;replace KA:=mK KA;replace KB:=mK KB;clear hD ht;obtain ⟨wb,hwb⟩:=nmE (((w.alloc (.cells #[.bool false,.slice la ln lc] 28)).alloc (.cells #[.int .u8 4,v0,v1,v2,v3,v4,v5,v6,v7,v8,v9,v10,.string nm,u0,u1,u2,u3] 60)).alloc (.cells #[.bool false,.slice none 0 0] 28));have hE:=mK (aLe3 hwb);have zR:=mK (aL30 hwb);have zO:=mK (aL31 hwb);have zB:=mK (aL32 hwb);replace hwb:=mK hwb;have h:=mK (fun W (e:Ext w W)=>h.ext e);clear h;go_enter Tryz.func6,Tryz.ntmps6;have tok:Tok 0:=.mk _
 go_wp2_with (first
  | (replace tok:Tok 1:=nxT 0 tok;go_at_call 27;rw [←hwb.out];refine (KA.out _ hE.out).mono ?_;rintro e wc1 ⟨rfl,hx⟩;replace zR:=mK (hx.blk zR.out);replace zO:=mK (hx.blk zO.out);replace zB:=mK (hx.blk zB.out);replace hE:=mK (hE.out.trans hx);clear hx)
  | (replace tok:Tok 2:=nxT 1 tok;refine wpList_load_row (by rfl) 28 (.tmp 4) rfl (w.heap.size) rfl 28 #[.bool false,.slice la ln lc] (0,0) _ zR.out Tryz.underlying28 rfl (by kernel_rfl) ?_)
  | (replace tok:Tok 3:=nxT 2 tok;go_at_call 28;refine (KB.out _ hE.out).mono ?_;rintro e wc2 ⟨rfl,hx⟩;replace zR:=mK (hx.blk zR.out);replace zO:=mK (hx.blk zO.out);replace zB:=mK (hx.blk zB.out);replace hE:=mK (hE.out.trans hx);clear hx)
  | (replace tok:Tok 4:=nxT 3 tok;refine wpList_load_row (by rfl) 28 (.tmp 4) rfl (w.heap.size) rfl 28 #[.bool false,.slice la ln lc] (0,0) _ zR.out Tryz.underlying28 rfl (by kernel_rfl) ?_)
  | (replace tok:Tok 5:=nxT 4 tok;refine wpList_store_row rfl 28 (.tmp 6) (.tmp 147) rfl (w.heap.size+2) #[.bool false,.slice la ln lc] rfl rfl 28 _ zB.out (by kernel_rfl) rfl (by kernel_rfl) ?_))
 refine bodyPost_ret (Ae rfl _ _ (w.heap.size+2) 28 #[.bool false,.slice la ln lc] _ _ rfl rfl (setRow_heap _ _ _ _ _ _ zB.out) Tryz.underlying28 rfl (by kernel_rfl)) rfl ?_;exact AskQ.stay h0.out (hE.out.row (show w.heap.size≤w.heap.size+2 by omega) _)
theorem Afk (w:World)(g M:Nat)(es rs:List (PD×Value))(la:Option Addr)(ln lc:Nat)(h:Two w g M es (.slice la ln lc) rs)(v0 v1 v2 v3 v4 v5 v6 v7 v8 v9 v10:Value)(nm:ByteArray)(u0 u1 u2 u3:Value)(hs:nm.size≤9223372036854775807) :
  Calls Tryz.prog 6 #[.pointer (some ⟨g,0,none⟩),.agg #[.bool false,.slice la ln lc],.agg #[.int .u8 2,v0,v1,v2,v3,v4,v5,v6,v7,v8,v9,v10,.string nm,u0,u1,u2,u3]] w (AskQ w g M es (.slice la ln lc) rs):=by
 have hD:Am rs=Am es:=h.same;have h0:=mK h;have KA:=fun W (e:Ext w W)=>Ais nm W g M es (h.ext e).cat hs;have KB:=fun W (e:Ext w W)=>Ai3 nm W (.slice la ln lc) rs (h.ext e).ref;rw [hD] at KB;generalize (Ea nm (Am es)).isSome=B at KA KB;generalize Ea nm (Am es)=o at KA KB;replace KA:=mK KA;replace KB:=mK KB;clear hD hs;obtain ⟨wb,hwb⟩:=nmE (((w.alloc (.cells #[.bool false,.slice la ln lc] 28)).alloc (.cells #[.int .u8 2,v0,v1,v2,v3,v4,v5,v6,v7,v8,v9,v10,.string nm,u0,u1,u2,u3] 60)).alloc (.cells #[.bool false,.slice none 0 0] 28));have hE:=mK (aLe3 hwb);have zR:=mK (aL30 hwb);have zO:=mK (aL31 hwb);have zB:=mK (aL32 hwb);replace hwb:=mK hwb;have h:=mK (fun W (e:Ext w W)=>h.ext e);clear h;go_enter Tryz.func6,Tryz.ntmps6;have tok:Tok 6:=.mk _
 go_wp2_with (first
  | (replace tok:Tok 7:=nxT 6 tok;rw [←hwb.out];(have y12:=Aa zO.out 12);go_at_call 9;refine (KA.out _ hE.out).mono ?_;rintro e wc1 ⟨p1,q1,gn,gk,gc,rfl,hK1,hx⟩;replace zR:=mK (hx.blk zR.out);replace zO:=mK (hx.blk zO.out);replace zB:=mK (hx.blk zB.out);replace hE:=mK (hE.out.trans hx);clear hx;replace hK1:=mK hK1.1;clear y12)
  | (replace tok:Tok 8:=nxT 7 tok;(have hl_zP:=mK (Ak zB.out));(obtain ⟨wa2,ha2⟩:=nmE (wc1.alloc (.cells #[.string gn,.int .u8 gk,.bool p1.b1,.slice p1.a1 p1.n1 p1.c1,.bool p1.b2,.slice p1.a2 p1.n2 p1.c2,.bool q1.b1,.slice q1.a1 q1.n1 q1.c1,.bool q1.b2,.slice q1.a2 q1.n2 q1.c2,.int .i64 gc] 58)));rw [←ha2];(have hx:=aLe1 ha2);replace zR:=mK (hx.blk zR.out);replace zO:=mK (hx.blk zO.out);replace zB:=mK (hx.blk zB.out);replace hE:=mK (hE.out.trans hx);replace hK1:=mK (hK1.out.ext hx);(have zP:=mK (aL10 ha2));clear hx;replace ha2:=mK ha2;(have y12:=Aa zO.out 12);refine wpList_load_row (by rfl) 28 (.tmp 4) rfl (w.heap.size) rfl 28 #[.bool false,.slice la ln lc] (0,0) _ zR.out Tryz.underlying28 rfl (by kernel_rfl) ?_)
  | (replace tok:Tok 9:=nxT 8 tok;go_at_call 21;refine (KB.out _ hE.out).mono ?_;rintro e wc3 ⟨p2,q2,gn2,gk2,gc2,rfl,hK2,hx⟩;replace zR:=mK (hx.blk zR.out);replace zO:=mK (hx.blk zO.out);replace zB:=mK (hx.blk zB.out);replace zP:=mK (hx.blk zP.out);replace hE:=mK (hE.out.trans hx);replace hK1:=mK (hK1.out.ext hx);clear hx y12;replace hK2:=mK hK2))
 (have hl_zQ:=mK (Ak zB.out));(obtain ⟨wa4,ha4⟩:=nmE (wc3.alloc (.cells #[.string gn2,.int .u8 gk2,.bool p2.b1,.slice p2.a1 p2.n1 p2.c1,.bool p2.b2,.slice p2.a2 p2.n2 p2.c2,.bool q2.b1,.slice q2.a1 q2.n1 q2.c1,.bool q2.b2,.slice q2.a2 q2.n2 q2.c2,.int .i64 gc2] 58)));rw [←ha4];(have hx:=aLe1 ha4);replace zR:=mK (hx.blk zR.out);replace zO:=mK (hx.blk zO.out);replace zB:=mK (hx.blk zB.out);replace zP:=mK (hx.blk zP.out);replace hE:=mK (hE.out.trans hx);replace hK1:=mK (hK1.out.ext hx);replace hK2:=mK (hK2.out.ext hx);(have zQ:=mK (aL10 ha4));clear hx;replace ha4:=mK ha4;have hEw:=hE.out;have hn_zP:=hl_zP.out;have hn_zQ:=hl_zQ.out;apply Jl (w.heap.size+2) #[.bool false,.slice la ln lc] 28 [.val (.agg #[.bool false,.slice la ln lc]),.val (.bool B),.val (.bool B),.val (.bool true),.val (.bool true),.val (.agg #[.string gn,.int .u8 gk,.bool p1.b1,.slice p1.a1 p1.n1 p1.c1,.bool p1.b2,.slice p1.a2 p1.n2 p1.c2,.bool q1.b1,.slice q1.a1 q1.n1 q1.c1,.bool q1.b2,.slice q1.a2 q1.n2 q1.c2,.int .i64 gc]),.val (.agg #[.string gn2,.int .u8 gk2,.bool p2.b1,.slice p2.a1 p2.n1 p2.c1,.bool p2.b2,.slice p2.a2 p2.n2 p2.c2,.bool q2.b1,.slice q2.a1 q2.n1 q2.c1,.bool q2.b2,.slice q2.a2 q2.n2 q2.c2,.int .i64 gc2]),.val (.bool true),.val (.bool true),.pred (Rj (w.heap.size+2) #[.bool false,.slice la ln lc] 28),.val (.bool true)]
 case hok=>kernel_rfl
 case hst=>exact (stable_vals _ (stable_vals _ (stable_vals _ (stable_vals _ (stable_vals _ (stable_vals _ (stable_vals _ (stable_vals _ (stable_vals _ (Ma (stable_vals _ trivial)))))))))))
 case hvo=>
  iterate 9 (refine ⟨(by intro h;cases h),?_⟩)
  refine ⟨(by intro _ W v h;exact h),?_⟩;exact ⟨(by intro h;cases h),trivial⟩
 refine ⟨?ld1,?_⟩
 case ld1=>
  intro W hW hF;have hr:=hW.blk zR.out (by omega);with_reducible refine De ?zhw 28 (.tmp 4) ?zho (w.heap.size) ?zhx 28 #[.bool false,.slice la ln lc] (0,0) _ hr Tryz.underlying28 ?zhd ?zhi ?zh
  case zhw=>kernel_rfl
  case zho=>rfl
  case zhx=>kernel_rfl
  case zhd=>rfl
  case zhi=>kernel_rfl
  case zh=>exact ⟨StR.refl _ _ _ _,rfl⟩
 iterate 4 (refine ⟨fun W hW _=>by go_simp;first|exact ⟨StR.refl _ _ _ _,rfl⟩|exact StR.refl _ _ _ _|rfl,?_⟩)
 refine ⟨?ld2,?_⟩
 case ld2=>
  intro W hW hF;have hr:=hW.blk zP.out (by omega);with_reducible refine De ?zhw 58 (.tmp 15) ?zho (wc1.heap.size) ?zhx 58 #[.string gn,.int .u8 gk,.bool p1.b1,.slice p1.a1 p1.n1 p1.c1,.bool p1.b2,.slice p1.a2 p1.n2 p1.c2,.bool q1.b1,.slice q1.a1 q1.n1 q1.c1,.bool q1.b2,.slice q1.a2 q1.n2 q1.c2,.int .i64 gc] (0,0) _ hr Tryz.underlying58 ?zhd ?zhi ?zh
  case zhw=>kernel_rfl
  case zho=>rfl
  case zhx=>kernel_rfl
  case zhd=>rfl
  case zhi=>kernel_rfl
  case zh=>exact ⟨StR.refl _ _ _ _,rfl⟩
 refine ⟨?ld3,?_⟩
 case ld3=>
  intro W hW hF;have hr:=hW.blk zQ.out (by omega);with_reducible refine De ?zhw 58 (.tmp 17) ?zho (wc3.heap.size) ?zhx 58 #[.string gn2,.int .u8 gk2,.bool p2.b1,.slice p2.a1 p2.n1 p2.c1,.bool p2.b2,.slice p2.a2 p2.n2 p2.c2,.bool q2.b1,.slice q2.a1 q2.n1 q2.c1,.bool q2.b2,.slice q2.a2 q2.n2 q2.c2,.int .i64 gc2] (0,0) _ hr Tryz.underlying58 ?zhd ?zhi ?zh
  case zhw=>kernel_rfl
  case zho=>rfl
  case zhx=>kernel_rfl
  case zhd=>rfl
  case zhi=>kernel_rfl
  case zh=>exact ⟨StR.refl _ _ _ _,rfl⟩
 refine ⟨fun W hW _=>?sp,?_⟩
 case sp=>
  go_simp;refine (Vt (hK1.out.str hW zB.out (by simp [Au])) (hK2.out.str hW zB.out (by simp [Au]))).mono ?_;rintro e w' ⟨rfl,hx⟩;exact ⟨rfl,StR.of_ext hx⟩
 iterate 1 (refine ⟨fun W hW _=>by go_simp;first|exact ⟨StR.refl _ _ _ _,rfl⟩|exact StR.refl _ _ _ _|rfl,?_⟩)
 refine ⟨?st,fun _=>⟨fun W hW _=>by go_simp;first|exact ⟨StR.refl _ _ _ _,rfl⟩|exact StR.refl _ _ _ _,?_⟩⟩
 case st=>
  intro W hW hF;with_reducible refine Hp (ty:=28) (x:=.tmp 6) (y:=.tmp 93) (g:=w.heap.size+2) (t:=28) (new:=#[.bool false,.slice la ln lc]) ?zhw ?zho ?zhx ?zhy zB.out hW ?zhi ?zhs ?zhc ?zh
  case zhw=>kernel_rfl
  case zho=>rfl
  case zhx=>kernel_rfl
  case zhy=>kernel_rfl
  case zhi=>kernel_rfl
  case zhs=>rfl
  case zhc=>kernel_rfl
  case zh=>exact fun _ h1 h2=>⟨h1,h2⟩
 intro W hW hF;have hr:W.heap[w.heap.size+2]? = some (.cells #[.bool false,.slice la ln lc] 28 (0,0)):=hF.1 rfl;have hEW:=mK (StR.ext hEw hW (by omega));clear hF hW hEw;go_simp;go_wp2_with fail;refine bodyPost_ret (Ae rfl _ _ (w.heap.size+2) 28 #[.bool false,.slice la ln lc] _ _ rfl rfl hr Tryz.underlying28 rfl (by kernel_rfl)) rfl ?_;exact AskQ.stay h0.out hEW.out
theorem Afm (w:World)(g M:Nat)(es rs:List (PD×Value))(la:Option Addr)(ln lc:Nat)(h:Two w g M es (.slice la ln lc) rs)(kd:Int)(v0 v1 v2 v3 v4 v5 v6 v7 v8 v9 v10:Value)(nm:ByteArray)(u0 u1 u2 u3:Value)(d0:(kd==0)=false)(d1:(kd==1)=false)(d2:(kd==2)=false)(d3:(kd==3)=false)(d4:(kd==4)=false) :
  Calls Tryz.prog 6 #[.pointer (some ⟨g,0,none⟩),.agg #[.bool false,.slice la ln lc],.agg #[.int .u8 kd,v0,v1,v2,v3,v4,v5,v6,v7,v8,v9,v10,.string nm,u0,u1,u2,u3]] w (AskQ w g M es (.slice la ln lc) rs):=by
 have hD:Hid (Am rs=Am es):=h.same;have h0:=mK h;have hok:=mK h.cat.ok;have hfew:=mK h.cat.few;obtain ⟨wb,hwb⟩:=nmE (((w.alloc (.cells #[.bool false,.slice la ln lc] 28)).alloc (.cells #[.int .u8 kd,v0,v1,v2,v3,v4,v5,v6,v7,v8,v9,v10,.string nm,u0,u1,u2,u3] 60)).alloc (.cells #[.bool false,.slice none 0 0] 28));have hE:=mK (aLe3 hwb);have zR:=mK (aL30 hwb);have zO:=mK (aL31 hwb);have zB:=mK (aL32 hwb);replace hwb:=mK hwb;have h:=mK (fun W (e:Ext w W)=>h.ext e);go_enter Tryz.func6,Tryz.ntmps6;go_wp2_with fail;rw [←hwb.out];have hEw:=hE.out;have hzb:=Ak zB.out;apply Jl (w.heap.size+2) #[.bool false,.slice la ln lc] 28 [.val (.agg #[.bool false,.slice la ln lc]),.val (.pointer (some ⟨g,0,none⟩)),.pred (AllP (w.heap.size+3) (Am es)),.val (.pointer (some ⟨w.heap.size,1,none⟩)),.val (.slice la ln lc),.val (.bool true),.pred (Rj (w.heap.size+2) #[.bool false,.slice la ln lc] 28),.val (.bool true)]
 case hok=>kernel_rfl
 case hst=>exact (stable_vals _ (stable_vals _ (Ag1 (Nat.lt_succ_self _) (stable_vals _ (stable_vals _ (stable_vals _ (Ma (stable_vals _ trivial))))))))
 case hvo=>
  iterate 6 (refine ⟨(by intro h;cases h),?_⟩)
  refine ⟨(by intro _ W v h;exact h),?_⟩;exact ⟨(by intro h;cases h),trivial⟩
 refine ⟨?ld4,?_⟩
 case ld4=>
  intro W hW hF;have hr:=hW.blk zR.out (by omega);with_reducible refine De ?zhw 28 (.tmp 4) ?zho (w.heap.size) ?zhx 28 #[.bool false,.slice la ln lc] (0,0) _ hr Tryz.underlying28 ?zhd ?zhi ?zh
  case zhw=>kernel_rfl
  case zho=>rfl
  case zhx=>kernel_rfl
  case zhd=>rfl
  case zhi=>kernel_rfl
  case zh=>exact ⟨StR.refl _ _ _ _,rfl⟩
 iterate 1 (refine ⟨fun W hW _=>by go_simp;first|exact ⟨StR.refl _ _ _ _,rfl⟩|exact StR.refl _ _ _ _|rfl,?_⟩)
 refine ⟨fun W hW _=>?sa,fun v28=>?_⟩
 case sa=>
  have hEW:=StR.ext hEw hW (by omega);have hsz:=hW.size;go_simp;refine (Tm W g M es (h.out _ hEW).cat).mono ?_;rintro e w' ⟨v,os,rfl,hO,hos,hx⟩;exact ⟨v,rfl,StR.of_ext hx,os,hO.mono (by omega),hos⟩
 iterate 1 (refine ⟨fun W hW _=>by go_simp;first|exact ⟨StR.refl _ _ _ _,rfl⟩|exact StR.refl _ _ _ _|rfl,?_⟩)
 refine ⟨fun W hW _=>?cl,?_⟩
 case cl=>
  have hc:W.cell? ⟨w.heap.size,1,none⟩=some (.slice la ln lc):=Aa (hW.blk zR.out (by omega)) 1;go_simp;first|exact ⟨StR.refl _ _ _ _,rfl⟩|exact StR.refl _ _ _ _
 refine ⟨fun W hW hF=>?sn,?_⟩
 case sn=>
  have hEW:=StR.ext hEw hW (by omega);have hA:AllP (w.heap.size+3) (Am es) W v28:=hF.1 rfl;obtain ⟨os,hO,hos⟩:=hA;go_simp;refine (Nn v28 (.slice la ln lc) os rs W hO.rowL (h.out _ hEW).ref.rowL (hos.trans hD.out.symm) (Vc hos hok.out) (by have h1:=congrArg List.length hos;have h2:=hfew.out;simp only [List.length_map] at h1;omega)).mono ?_;rintro e w' ⟨rfl,hx⟩;exact ⟨rfl,StR.of_ext hx⟩
 refine ⟨?st,fun _=>⟨fun W hW _=>by go_simp;first|exact ⟨StR.refl _ _ _ _,rfl⟩|exact StR.refl _ _ _ _,?_⟩⟩
 case st=>
  intro W hW hF;with_reducible refine Hp (ty:=28) (x:=.tmp 6) (y:=.tmp 156) (g:=w.heap.size+2) (t:=28) (new:=#[.bool false,.slice la ln lc]) ?zhw ?zho ?zhx ?zhy zB.out hW ?zhi ?zhs ?zhc ?zh
  case zhw=>kernel_rfl
  case zho=>rfl
  case zhx=>kernel_rfl
  case zhy=>kernel_rfl
  case zhi=>kernel_rfl
  case zhs=>rfl
  case zhc=>kernel_rfl
  case zh=>exact fun _ h1 h2=>⟨h1,h2⟩
 intro W hW hF;have hr:W.heap[w.heap.size+2]? = some (.cells #[.bool false,.slice la ln lc] 28 (0,0)):=hF.1 rfl;have hEW:=mK (StR.ext hEw hW (by omega));clear hF hW hEw;go_simp;go_wp2_with fail;refine bodyPost_ret (Ae rfl _ _ (w.heap.size+2) 28 #[.bool false,.slice la ln lc] _ _ rfl rfl hr Tryz.underlying28 rfl (by kernel_rfl)) rfl ?_;exact AskQ.stay h0.out hEW.out
theorem Ada (w:World)(g M:Nat)(es rs:List (PD×Value))(la:Option Addr)(ln lc:Nat)(h:Two w g M es (.slice la ln lc) rs)(v0 v1 v2 v3 v4 v5 v6 v7 v8 v9 v10:Value)(nm:ByteArray)(b1:Bool)(a1:Option Addr)(n1 c1:Nat)(b2:Bool)(a2:Option Addr)(n2 c2:Nat)(l1 l2:List Nat)(k1:l1.length≤4294967296)(k2:l2.length≤4294967296)(hu:AnyL w (.agg #[.bool b1,.slice a1 n1 c1,.bool b2,.slice a2 n2 c2]) b1 l1 b2 l2) :
  Calls Tryz.prog 6 #[.pointer (some ⟨g,0,none⟩),.agg #[.bool false,.slice la ln lc],.agg #[.int .u8 3,v0,v1,v2,v3,v4,v5,v6,v7,v8,v9,v10,.string nm,.bool b1,.slice a1 n1 c1,.bool b2,.slice a2 n2 c2]] w (AskQ w g M es (.slice la ln lc) rs):=by
 have hD:Am rs=Am es:=h.same;have h0:=mK h;have KA:=fun W (e:Ext w W) g1 g2 (t1:TwG W g1 l1) (t2:TwG W g2 l2)=>Ai9 ⟨b1,some ⟨g1,0,none⟩,l1.length,l1.length+1,b2,some ⟨g2,0,none⟩,l2.length,l2.length+1⟩ (ratF b1 l1 b2 l2) W g M es (h.ext e).cat ⟨_,_,_,_,TwG.any t1 t2 k1 k2 b1 b2,rfl⟩;have KB:=fun W (e:Ext w W)=>Ag9 ⟨b1,a1,n1,c1,b2,a2,n2,c2⟩ (ratF b1 l1 b2 l2) W (.slice la ln lc) rs (h.ext e).ref ⟨_,_,_,_,hu.ext e,rfl⟩;rw [hD] at KB;generalize (Nt (ratF b1 l1 b2 l2) (Am es)).1=C at KA KB;generalize (Nt (ratF b1 l1 b2 l2) (Am es)).2=o at KA KB;replace KA:=mK KA;replace KB:=mK KB;clear hD;obtain ⟨wb,hwb⟩:=nmE (((w.alloc (.cells #[.bool false,.slice la ln lc] 28)).alloc (.cells #[.int .u8 3,v0,v1,v2,v3,v4,v5,v6,v7,v8,v9,v10,.string nm,.bool b1,.slice a1 n1 c1,.bool b2,.slice a2 n2 c2] 60)).alloc (.cells #[.bool false,.slice none 0 0] 28));have hE:=mK (aLe3 hwb);have zR:=mK (aL30 hwb);have zO:=mK (aL31 hwb);have zB:=mK (aL32 hwb);replace hwb:=mK hwb;have h:=mK (fun W (e:Ext w W)=>h.ext e);have HU:=mK (fun W (e:Ext w W)=>hu.ext e);have zB0:=mK zB.out;clear hu h;go_enter Tryz.func6,Tryz.ntmps6;have tok:Tok 10:=.mk _
 go_wp2_with (first
  | (replace tok:Tok 11:=nxT 10 tok;rw [←hwb.out];refine Ab (by rfl) 54 (.tmp 104) rfl (w.heap.size+1) 13 rfl 60 #[.int .u8 3,v0,v1,v2,v3,v4,v5,v6,v7,v8,v9,v10,.string nm,.bool b1,.slice a1 n1 c1,.bool b2,.slice a2 n2 c2] #[.bool b1,.slice a1 n1 c1,.bool b2,.slice a2 n2 c2] (0,0) _ zO.out rfl Tryz.underlying54 rfl (by kernel_rfl) ?_)
  | (replace tok:Tok 12:=nxT 11 tok;go_at_call 23;refine (Jk _ b1 l1 b2 l2 _ (HU.out _ hE.out)).mono ?_;rintro e wc1 ⟨v,rfl,ht,hx⟩;replace zR:=mK (hx.blk zR.out);replace zO:=mK (hx.blk zO.out);replace zB:=mK (hx.blk zB.out);replace hE:=mK (hE.out.trans hx);clear hx;obtain ⟨g1,g2,rfl,hne,hl1,hl2,t1,t2⟩:=ht;replace t1:=mK t1;replace t2:=mK t2;replace hl1:=mK (show w.heap.size+2<g1 by have:=Ak zB0.out;omega);replace hl2:=mK (show w.heap.size+2<g2 by have:=Ak zB0.out;omega);clear hne)
  | (replace tok:Tok 13:=nxT 12 tok;(have hl_zT:=mK (Ak zB.out));(obtain ⟨wa2,ha2⟩:=nmE (wc1.alloc (.cells #[.bool b1,.slice (some ⟨g1,0,none⟩) l1.length (l1.length+1),.bool b2,.slice (some ⟨g2,0,none⟩) l2.length (l2.length+1)] 54)));rw [←ha2];(have hx:=aLe1 ha2);replace zR:=mK (hx.blk zR.out);replace zO:=mK (hx.blk zO.out);replace zB:=mK (hx.blk zB.out);replace hE:=mK (hE.out.trans hx);replace t1:=mK (t1.out.ext hx);replace t2:=mK (t2.out.ext hx);(have zT:=mK (aL10 ha2));clear hx;replace ha2:=mK ha2;refine wpList_load_row (by rfl) 54 (.tmp 19) rfl (wc1.heap.size) rfl 54 #[.bool b1,.slice (some ⟨g1,0,none⟩) l1.length (l1.length+1),.bool b2,.slice (some ⟨g2,0,none⟩) l2.length (l2.length+1)] (0,0) _ zT.out Tryz.underlying54 rfl (by kernel_rfl) ?_)
  | (replace tok:Tok 14:=nxT 13 tok;go_at_call 24;refine (KA.out _ hE.out _ _ t1.out t2.out).mono ?_;rintro e wc3 ⟨p1,q1,gn,gk,gc,rfl,hK1,hx⟩;replace zR:=mK (hx.blk zR.out);replace zO:=mK (hx.blk zO.out);replace zB:=mK (hx.blk zB.out);replace zT:=mK (hx.blk zT.out);replace hE:=mK (hE.out.trans hx);replace t1:=mK (t1.out.ext hx);replace t2:=mK (t2.out.ext hx);clear hx;replace hK1:=mK hK1.1)
  | (replace tok:Tok 15:=nxT 14 tok;(have hl_zP:=mK (Ak zB.out));(obtain ⟨wa4,ha4⟩:=nmE (wc3.alloc (.cells #[.string gn,.int .u8 gk,.bool p1.b1,.slice p1.a1 p1.n1 p1.c1,.bool p1.b2,.slice p1.a2 p1.n2 p1.c2,.bool q1.b1,.slice q1.a1 q1.n1 q1.c1,.bool q1.b2,.slice q1.a2 q1.n2 q1.c2,.int .i64 gc] 58)));rw [←ha4];(have hx:=aLe1 ha4);replace zR:=mK (hx.blk zR.out);replace zO:=mK (hx.blk zO.out);replace zB:=mK (hx.blk zB.out);replace zT:=mK (hx.blk zT.out);replace hE:=mK (hE.out.trans hx);replace t1:=mK (t1.out.ext hx);replace t2:=mK (t2.out.ext hx);replace hK1:=mK (hK1.out.ext hx);(have zP:=mK (aL10 ha4));clear hx;replace ha4:=mK ha4;refine wpList_load_row (by rfl) 28 (.tmp 4) rfl (w.heap.size) rfl 28 #[.bool false,.slice la ln lc] (0,0) _ zR.out Tryz.underlying28 rfl (by kernel_rfl) ?_)
  | (replace tok:Tok 16:=nxT 15 tok;refine Ab (by rfl) 54 (.tmp 115) rfl (w.heap.size+1) 13 rfl 60 #[.int .u8 3,v0,v1,v2,v3,v4,v5,v6,v7,v8,v9,v10,.string nm,.bool b1,.slice a1 n1 c1,.bool b2,.slice a2 n2 c2] #[.bool b1,.slice a1 n1 c1,.bool b2,.slice a2 n2 c2] (0,0) _ zO.out rfl Tryz.underlying54 rfl (by kernel_rfl) ?_)
  | (replace tok:Tok 17:=nxT 16 tok;go_at_call 25;refine (KB.out _ hE.out).mono ?_;rintro e wc5 ⟨p2,q2,gn2,gk2,gc2,rfl,hK2,hx⟩;replace zR:=mK (hx.blk zR.out);replace zO:=mK (hx.blk zO.out);replace zB:=mK (hx.blk zB.out);replace zT:=mK (hx.blk zT.out);replace zP:=mK (hx.blk zP.out);replace hE:=mK (hE.out.trans hx);replace t1:=mK (t1.out.ext hx);replace t2:=mK (t2.out.ext hx);replace hK1:=mK (hK1.out.ext hx);clear hx;replace hK2:=mK hK2))
 (have hl_zQ:=mK (Ak zB.out));(obtain ⟨wa6,ha6⟩:=nmE (wc5.alloc (.cells #[.string gn2,.int .u8 gk2,.bool p2.b1,.slice p2.a1 p2.n1 p2.c1,.bool p2.b2,.slice p2.a2 p2.n2 p2.c2,.bool q2.b1,.slice q2.a1 q2.n1 q2.c1,.bool q2.b2,.slice q2.a2 q2.n2 q2.c2,.int .i64 gc2] 58)));rw [←ha6];(have hx:=aLe1 ha6);replace zR:=mK (hx.blk zR.out);replace zO:=mK (hx.blk zO.out);replace zB:=mK (hx.blk zB.out);replace zT:=mK (hx.blk zT.out);replace zP:=mK (hx.blk zP.out);replace hE:=mK (hE.out.trans hx);replace t1:=mK (t1.out.ext hx);replace t2:=mK (t2.out.ext hx);replace hK1:=mK (hK1.out.ext hx);replace hK2:=mK (hK2.out.ext hx);(have zQ:=mK (aL10 ha6));clear hx;replace ha6:=mK ha6;have u1:=t1.out;have u2:=t2.out;have hv1:=hl1.out;have hv2:=hl2.out;have hEw:=hE.out;have hn_zT:=hl_zT.out;have hn_zP:=hl_zP.out;have hn_zQ:=hl_zQ.out;apply Jl (w.heap.size+2) #[.bool false,.slice la ln lc] 28 [.val (.agg #[.bool false,.slice la ln lc]),.val (.int .i64 C),.val (.int .i64 C),.val (.bool true),.val (.bool true),.val (.agg #[.string gn,.int .u8 gk,.bool p1.b1,.slice p1.a1 p1.n1 p1.c1,.bool p1.b2,.slice p1.a2 p1.n2 p1.c2,.bool q1.b1,.slice q1.a1 q1.n1 q1.c1,.bool q1.b2,.slice q1.a2 q1.n2 q1.c2,.int .i64 gc]),.val (.agg #[.string gn2,.int .u8 gk2,.bool p2.b1,.slice p2.a1 p2.n1 p2.c1,.bool p2.b2,.slice p2.a2 p2.n2 p2.c2,.bool q2.b1,.slice q2.a1 q2.n1 q2.c1,.bool q2.b2,.slice q2.a2 q2.n2 q2.c2,.int .i64 gc2]),.val (.bool true),.val (.bool true),.val (.bool true),.val (.agg #[.bool b1,.slice (some ⟨g1,0,none⟩) l1.length (l1.length+1),.bool b2,.slice (some ⟨g2,0,none⟩) l2.length (l2.length+1)]),.val (.pointer (some ⟨w.heap.size+1,13,none⟩)),.val (.agg #[.bool b1,.slice a1 n1 c1,.bool b2,.slice a2 n2 c2]),.val (.bool true),.val (.bool true),.pred (Rj (w.heap.size+2) #[.bool false,.slice la ln lc] 28),.val (.bool true)]
 case hok=>kernel_rfl
 case hst=>exact (stable_vals _ (stable_vals _ (stable_vals _ (stable_vals _ (stable_vals _ (stable_vals _ (stable_vals _ (stable_vals _ (stable_vals _ (stable_vals _ (stable_vals _ (stable_vals _ (stable_vals _ (stable_vals _ (stable_vals _ (Ma (stable_vals _ trivial)))))))))))))))))
 case hvo=>
  iterate 15 (refine ⟨(by intro h;cases h),?_⟩)
  refine ⟨(by intro _ W v h;exact h),?_⟩;exact ⟨(by intro h;cases h),trivial⟩
 refine ⟨?ld5,?_⟩
 case ld5=>
  intro W hW hF;have hr:=hW.blk zR.out (by omega);with_reducible refine De ?zhw 28 (.tmp 4) ?zho (w.heap.size) ?zhx 28 #[.bool false,.slice la ln lc] (0,0) _ hr Tryz.underlying28 ?zhd ?zhi ?zh
  case zhw=>kernel_rfl
  case zho=>rfl
  case zhx=>kernel_rfl
  case zhd=>rfl
  case zhi=>kernel_rfl
  case zh=>exact ⟨StR.refl _ _ _ _,rfl⟩
 iterate 4 (refine ⟨fun W hW _=>by go_simp;first|exact ⟨StR.refl _ _ _ _,rfl⟩|exact StR.refl _ _ _ _|rfl,?_⟩)
 refine ⟨?ld6,?_⟩
 case ld6=>
  intro W hW hF;have hr:=hW.blk zP.out (by omega);with_reducible refine De ?zhw 58 (.tmp 20) ?zho (wc3.heap.size) ?zhx 58 #[.string gn,.int .u8 gk,.bool p1.b1,.slice p1.a1 p1.n1 p1.c1,.bool p1.b2,.slice p1.a2 p1.n2 p1.c2,.bool q1.b1,.slice q1.a1 q1.n1 q1.c1,.bool q1.b2,.slice q1.a2 q1.n2 q1.c2,.int .i64 gc] (0,0) _ hr Tryz.underlying58 ?zhd ?zhi ?zh
  case zhw=>kernel_rfl
  case zho=>rfl
  case zhx=>kernel_rfl
  case zhd=>rfl
  case zhi=>kernel_rfl
  case zh=>exact ⟨StR.refl _ _ _ _,rfl⟩
 refine ⟨?ld7,?_⟩
 case ld7=>
  intro W hW hF;have hr:=hW.blk zQ.out (by omega);with_reducible refine De ?zhw 58 (.tmp 22) ?zho (wc5.heap.size) ?zhx 58 #[.string gn2,.int .u8 gk2,.bool p2.b1,.slice p2.a1 p2.n1 p2.c1,.bool p2.b2,.slice p2.a2 p2.n2 p2.c2,.bool q2.b1,.slice q2.a1 q2.n1 q2.c1,.bool q2.b2,.slice q2.a2 q2.n2 q2.c2,.int .i64 gc2] (0,0) _ hr Tryz.underlying58 ?zhd ?zhi ?zh
  case zhw=>kernel_rfl
  case zho=>rfl
  case zhx=>kernel_rfl
  case zhd=>rfl
  case zhi=>kernel_rfl
  case zh=>exact ⟨StR.refl _ _ _ _,rfl⟩
 refine ⟨fun W hW _=>?sp,?_⟩
 case sp=>
  go_simp;refine (Vt (hK1.out.str hW zB.out (by simp [Au])) (hK2.out.str hW zB.out (by simp [Au]))).mono ?_;rintro e w' ⟨rfl,hx⟩;exact ⟨rfl,StR.of_ext hx⟩
 iterate 2 (refine ⟨fun W hW _=>by go_simp;first|exact ⟨StR.refl _ _ _ _,rfl⟩|exact StR.refl _ _ _ _|rfl,?_⟩)
 refine ⟨?ld8,?_⟩
 case ld8=>
  intro W hW hF;have hr:=hW.blk zT.out (by omega);with_reducible refine De ?zhw 54 (.tmp 19) ?zho (wc1.heap.size) ?zhx 54 #[.bool b1,.slice (some ⟨g1,0,none⟩) l1.length (l1.length+1),.bool b2,.slice (some ⟨g2,0,none⟩) l2.length (l2.length+1)] (0,0) _ hr Tryz.underlying54 ?zhd ?zhi ?zh
  case zhw=>kernel_rfl
  case zho=>rfl
  case zhx=>kernel_rfl
  case zhd=>rfl
  case zhi=>kernel_rfl
  case zh=>exact ⟨StR.refl _ _ _ _,rfl⟩
 iterate 1 (refine ⟨fun W hW _=>by go_simp;first|exact ⟨StR.refl _ _ _ _,rfl⟩|exact StR.refl _ _ _ _|rfl,?_⟩)
 refine ⟨?ld9,?_⟩
 case ld9=>
  intro W hW hF;have hr:=hW.blk zO.out (by omega);with_reducible refine Ct ?zhw 54 (.tmp 131) ?zho (w.heap.size+1) 13 ?zhx 60 #[.int .u8 3,v0,v1,v2,v3,v4,v5,v6,v7,v8,v9,v10,.string nm,.bool b1,.slice a1 n1 c1,.bool b2,.slice a2 n2 c2] #[.bool b1,.slice a1 n1 c1,.bool b2,.slice a2 n2 c2] (0,0) _ hr ?zhs Tryz.underlying54 ?zhd ?zhi ?zh
  case zhw=>kernel_rfl
  case zho=>rfl
  case zhx=>kernel_rfl
  case zhs=>rfl
  case zhd=>rfl
  case zhi=>kernel_rfl
  case zh=>exact ⟨StR.refl _ _ _ _,rfl⟩
 refine ⟨fun W hW _=>?lf,?_⟩
 case lf=>
  have hEW:=StR.ext hEw hW (by omega);go_simp;refine (Jw _ _ b1 l1 b2 l2 W k1 k2 (show TwF W (.agg #[.bool b1,.slice (some ⟨g1,0,none⟩) l1.length (l1.length+1),.bool b2,.slice (some ⟨g2,0,none⟩) l2.length (l2.length+1)]) b1 l1 b2 l2 from ⟨_,_,_,_,rfl,(TwG.str u1 hW (by omega)).twin b1,(TwG.str u2 hW (by omega)).twin b2⟩) (HU.out _ hEW)).mono ?_;rintro e w' ⟨rfl,hx⟩;exact ⟨rfl,StR.of_ext hx⟩
 iterate 1 (refine ⟨fun W hW _=>by go_simp;first|exact ⟨StR.refl _ _ _ _,rfl⟩|exact StR.refl _ _ _ _|rfl,?_⟩)
 refine ⟨?st,fun _=>⟨fun W hW _=>by go_simp;first|exact ⟨StR.refl _ _ _ _,rfl⟩|exact StR.refl _ _ _ _,?_⟩⟩
 case st=>
  intro W hW hF;with_reducible refine Hp (ty:=28) (x:=.tmp 6) (y:=.tmp 120) (g:=w.heap.size+2) (t:=28) (new:=#[.bool false,.slice la ln lc]) ?zhw ?zho ?zhx ?zhy zB.out hW ?zhi ?zhs ?zhc ?zh
  case zhw=>kernel_rfl
  case zho=>rfl
  case zhx=>kernel_rfl
  case zhy=>kernel_rfl
  case zhi=>kernel_rfl
  case zhs=>rfl
  case zhc=>kernel_rfl
  case zh=>exact fun _ h1 h2=>⟨h1,h2⟩
 intro W hW hF;have hr:W.heap[w.heap.size+2]? = some (.cells #[.bool false,.slice la ln lc] 28 (0,0)):=hF.1 rfl;have hEW:=mK (StR.ext hEw hW (by omega));clear hF hW hEw;go_simp;go_wp2_with fail;refine bodyPost_ret (Ae rfl _ _ (w.heap.size+2) 28 #[.bool false,.slice la ln lc] _ _ rfl rfl hr Tryz.underlying28 rfl (by kernel_rfl)) rfl ?_;exact AskQ.stay h0.out hEW.out
theorem Adb (w:World)(g M:Nat)(es rs:List (PD×Value))(la:Option Addr)(ln lc:Nat)(h:Two w g M es (.slice la ln lc) rs)(v0 v1 v2 v3 v4 v5 v6 v7 v8 v9 v10:Value)(nm:ByteArray)(u0 u1 u2 u3:Value)(hs:nm.size≤9223372036854775807) :
  Calls Tryz.prog 6 #[.pointer (some ⟨g,0,none⟩),.agg #[.bool false,.slice la ln lc],.agg #[.int .u8 1,v0,v1,v2,v3,v4,v5,v6,v7,v8,v9,v10,.string nm,u0,u1,u2,u3]] w (AskQ w g M es (.slice la ln lc) rs):=by
 have hD:Am rs=Am es:=h.same;have h0:=mK h;have KA:=fun W (e:Ext w W)=>Ajh nm W g M es (h.ext e).cat hs;have KB:=fun W (e:Ext w W)=>Ahi nm W (.slice la ln lc) rs (h.ext e).ref;rw [hD] at KB;generalize (Nw nm (Am es)).1=C at KA KB;generalize (Nw nm (Am es)).2=D at KA KB;have hM:=h.cat.lt M (.inr (.inl rfl));replace KA:=mK KA;replace KB:=mK KB;clear hD hs;obtain ⟨wb,hwb⟩:=nmE (((w.alloc (.cells #[.bool false,.slice la ln lc] 28)).alloc (.cells #[.int .u8 1,v0,v1,v2,v3,v4,v5,v6,v7,v8,v9,v10,.string nm,u0,u1,u2,u3] 60)).alloc (.cells #[.bool false,.slice none 0 0] 28));have hE:=mK (aLe3 hwb);have zR:=mK (aL30 hwb);have zO:=mK (aL31 hwb);have zB:=mK (aL32 hwb);replace hwb:=mK hwb;have h:=mK (fun W (e:Ext w W)=>h.ext e);clear h;have hzb:=Ak zB.out;go_enter Tryz.func6,Tryz.ntmps6;have tok:Tok 18:=.mk _
 go_wp2_with (first
  | (replace tok:Tok 19:=nxT 18 tok;rw [←hwb.out];(have y12:=Aa zO.out 12);refine wpList_load_row (by rfl) 28 (.tmp 4) rfl (w.heap.size) rfl 28 #[.bool false,.slice la ln lc] (0,0) _ zR.out Tryz.underlying28 rfl (by kernel_rfl) ?_)
  | (replace tok:Tok 20:=nxT 19 tok;go_at_call 19;refine (KB.out _ hE.out).mono ?_;rintro e wc1 ⟨a',n',k',rs',rfl,hD1,hR,hx,hB1⟩;replace zR:=mK (hx.blk zR.out);replace zO:=mK (hx.blk zO.out);replace zB:=mK (hx.blk zB.out);replace hE:=mK (hE.out.trans hx);clear hx y12;(have hE1:=hE);replace hD1:=mK hD1;replace hR:=mK hR;replace hB1:=mK hB1))
 (have hl_zN:=mK (Ak zB.out));(obtain ⟨wa2,ha2⟩:=nmE (wc1.alloc (.cells #[.bool false,.slice a' n' k'] 28)));rw [←ha2];(have hx:=aLe1 ha2);replace zR:=mK (hx.blk zR.out);replace zO:=mK (hx.blk zO.out);replace zB:=mK (hx.blk zB.out);replace hE:=mK (hE.out.trans hx);(have zN:=mK (aL10 ha2));clear hx;replace ha2:=mK ha2;have zO3:=zO.out;have y12:=Aa zO3 12;have cN3:=Ac zN.out;have hlN:=hl_zN.out;have hlN2:=Ak zN.out;have hE3:=hE.out;have hE13:Ext wc1 wa2:=by rw [ha2.out];exact (xR _).al _
 have HK:=mK (fun W (e:Ext w W)=>KA.out W e);clear zO3 KA KB
 go_region_with
  ((go_at_call 20;refine (HK.out _ ?_).mono ?_;(first|exact hE3|exact hE3.dr);rintro e wz ⟨rfl,es',hD2,hC2,hX,hB2⟩;(have zNz:=(hX.block (wc1.heap.size) (Ak zN.out) (show ¬wc1.heap.size=M by omega)).trans zN.out);(have zBz:=(hX.block (w.heap.size+2) (Ak zB.out) (show ¬w.heap.size+2=M by omega)).trans zB.out);(have cNz:=Ac zNz);(have cBz:=Ac zBz);(have fBz:=Dm zBz);replace zBz:=mK zBz;replace hX:=mK (show Chg wa2 wz (· = M) from ⟨hX.os,hX.tape,hX.output,hX.size,hX.block⟩);replace hC2:=mK hC2;replace hD2:=mK hD2;(replace hB2:=mK (show ∀ j,catL g M es' j→catL g M es j∨w.heap.size+3≤j from fun j hj=>(hB2 j hj).imp id (fun (hk:wa2.heap.size≤j)=>by omega)));clear zNz))
 all_goals
  rw [Kv zBz.out];clear cNz cBz fBz cN3 y12;go_wp2_with fail;refine bodyPost_ret (Ae rfl _ _ (w.heap.size+2) 28 #[.bool false,.slice a' n' k'] _ _ rfl rfl (setRow_heap _ _ _ _ _ _ zBz.out) Tryz.underlying28 rfl (by kernel_rfl)) rfl ?_;exact (AskQ.fin h0.out (Ye (n0:=w.heap.size+3) h0.out hR.out hE1.out (fun j hj=>(hB1.out j hj).imp id (fun hk=>by omega)) hE13 hC2.out hX.out hB2.out hD1.out hD2.out (by omega)) (by omega) (Chg.set wz (w.heap.size+2) _) (fun j hj=>by omega))
theorem Afj (w:World)(g M:Nat)(es rs:List (PD×Value))(la:Option Addr)(ln lc:Nat)(h:Two w g M es (.slice la ln lc) rs)(pn:ByteArray)(pk co:Int)(b1:Bool)(l1:List Nat)(a1:Option Addr)(c1:Nat)(b2:Bool)(l2:List Nat)(a2:Option Addr)(c2:Nat)(b3:Bool)(l3:List Nat)(a3:Option Addr)(c3:Nat)(b4:Bool)(l4:List Nat)(a4:Option Addr)(c4:Nat)(nm:ByteArray)(u0 u1 u2 u3:Value)(k1:l1.length≤1000000000)(k2:l2.length≤1000000000)(k3:l3.length≤1000000000)(k4:l4.length≤1000000000)(hs:pn.size≤9223372036854775807)(h1:AnyL w (.agg #[.bool b1,.slice a1 l1.length c1,.bool b2,.slice a2 l2.length c2]) b1 l1 b2 l2)(h2:AnyL w (.agg #[.bool b3,.slice a3 l3.length c3,.bool b4,.slice a4 l4.length c4]) b3 l3 b4 l4) :
  Calls Tryz.prog 6 #[.pointer (some ⟨g,0,none⟩),.agg #[.bool false,.slice la ln lc],.agg #[.int .u8 0,.string pn,.int .u8 pk,.bool b1,.slice a1 l1.length c1,.bool b2,.slice a2 l2.length c2,.bool b3,.slice a3 l3.length c3,.bool b4,.slice a4 l4.length c4,.int .i64 co,.string nm,u0,u1,u2,u3]] w (AskQ w g M es (.slice la ln lc) rs):=by
 have hD:Am rs=Am es:=h.same;have h0:=mK h;have KP:=fun W (e:Ext w W) g1 g2 g3 g4 (t1:TwG W g1 l1) (t2:TwG W g2 l2) (t3:TwG W g3 l3) (t4:TwG W g4 l4)=>Ajo ⟨pn,pk,co,ratF b1 l1 b2 l2,ratF b3 l3 b4 l4⟩ ⟨b1,some ⟨g1,0,none⟩,l1.length,l1.length+1,b2,some ⟨g2,0,none⟩,l2.length,l2.length+1⟩ ⟨b3,some ⟨g3,0,none⟩,l3.length,l3.length+1,b4,some ⟨g4,0,none⟩,l4.length,l4.length+1⟩ W g M es (h.ext e).cat ⟨_,_,_,_,TwG.any t1 t2 (by omega) (by omega) b1 b2,rfl⟩ ⟨_,_,_,_,TwG.any t3 t4 (by omega) (by omega) b3 b4,rfl⟩ hs;have KR:=fun W (e:Ext w W)=>Ai1 ⟨pn,pk,co,ratF b1 l1 b2 l2,ratF b3 l3 b4 l4⟩ ⟨b1,a1,l1.length,c1,b2,a2,l2.length,c2⟩ ⟨b3,a3,l3.length,c3,b4,a4,l4.length,c4⟩ W (.slice la ln lc) rs (h.ext e).ref ⟨_,_,_,_,h1.ext e,rfl⟩ ⟨_,_,_,_,h2.ext e,rfl⟩ hs;rw [hD] at KR;generalize (putA ⟨pn,pk,co,ratF b1 l1 b2 l2,ratF b3 l3 b4 l4⟩ (Am es)).1=C at KP KR;generalize (putA ⟨pn,pk,co,ratF b1 l1 b2 l2,ratF b3 l3 b4 l4⟩ (Am es)).2=D at KP KR;have hM:=mK (h.cat.lt M (.inr (.inl rfl)));have KM:=mK (fun W (e:Ext w W)=>(h.ext e).cat.map);replace KP:=mK KP;replace KR:=mK KR;clear hD hs;obtain ⟨wb,hwb⟩:=nmE (((w.alloc (.cells #[.bool false,.slice la ln lc] 28)).alloc (.cells #[.int .u8 0,.string pn,.int .u8 pk,.bool b1,.slice a1 l1.length c1,.bool b2,.slice a2 l2.length c2,.bool b3,.slice a3 l3.length c3,.bool b4,.slice a4 l4.length c4,.int .i64 co,.string nm,u0,u1,u2,u3] 60)).alloc (.cells #[.bool false,.slice none 0 0] 28));have hE:=mK (aLe3 hwb);have zR:=mK (aL30 hwb);have zO:=mK (aL31 hwb);have zB:=mK (aL32 hwb);replace hwb:=mK hwb;have h:=mK (fun W (e:Ext w W)=>h.ext e);have zB0:=zB;have H1:=mK (fun W (e:Ext w W)=>h1.ext e);have H2:=mK (fun W (e:Ext w W)=>h2.ext e);clear h1 h2 h;have K:=mK (And.intro k1 (And.intro k2 (And.intro k3 k4)));have K':=mK (show (l1.length≤4294967296∧l2.length≤4294967296∧l3.length≤4294967296∧l4.length≤4294967296) by omega)
 clear k1 k2 k3 k4;go_enter Tryz.func6,Tryz.ntmps6;have tok:Tok 21:=.mk _
 go_wp2_with (first
  | (replace tok:Tok 22:=nxT 21 tok;rw [←hwb.out];refine Ab (by rfl) 58 (.tmp 32) rfl (w.heap.size+1) 1 rfl 60 #[.int .u8 0,.string pn,.int .u8 pk,.bool b1,.slice a1 l1.length c1,.bool b2,.slice a2 l2.length c2,.bool b3,.slice a3 l3.length c3,.bool b4,.slice a4 l4.length c4,.int .i64 co,.string nm,u0,u1,u2,u3] #[.string pn,.int .u8 pk,.bool b1,.slice a1 l1.length c1,.bool b2,.slice a2 l2.length c2,.bool b3,.slice a3 l3.length c3,.bool b4,.slice a4 l4.length c4,.int .i64 co] (0,0) _ zO.out rfl Tryz.underlying58 rfl (by kernel_rfl) ?_)
  | (replace tok:Tok 23:=nxT 22 tok;go_at_call 15;refine (Ym pn pk co b1 l1 a1 l1.length c1 b2 l2 a2 l2.length c2 b3 l3 a3 l3.length c3 b4 l4 a4 l4.length c4 _ (H1.out _ hE.out) (H2.out _ hE.out)).mono ?_;rintro e wc1 ⟨v,rfl,ht,hx⟩;replace zR:=mK (hx.blk zR.out);replace zO:=mK (hx.blk zO.out);replace zB:=mK (hx.blk zB.out);replace hE:=mK (hE.out.trans hx);clear hx;obtain ⟨g1,g2,g3,g4,rfl,hne,hlo,t1,t2,t3,t4⟩:=ht;replace t1:=mK t1;replace t2:=mK t2;replace t3:=mK t3;replace t4:=mK t4;replace hne:=mK hne;replace hlo:=mK hlo)
  | (replace tok:Tok 24:=nxT 23 tok;(have gl_zT:=mK (And.intro t1.out.lt (And.intro t2.out.lt (And.intro t3.out.lt t4.out.lt))));(have hl_zT:=mK (Ak zB.out));(obtain ⟨wa2,ha2⟩:=nmE (wc1.alloc (.cells #[.string pn,.int .u8 pk,.bool b1,.slice (some ⟨g1,0,none⟩) l1.length (l1.length+1),.bool b2,.slice (some ⟨g2,0,none⟩) l2.length (l2.length+1),.bool b3,.slice (some ⟨g3,0,none⟩) l3.length (l3.length+1),.bool b4,.slice (some ⟨g4,0,none⟩) l4.length (l4.length+1),.int .i64 co] 58)));rw [←ha2];(have hx:=aLe1 ha2);replace zR:=mK (hx.blk zR.out);replace zO:=mK (hx.blk zO.out);replace zB:=mK (hx.blk zB.out);replace hE:=mK (hE.out.trans hx);replace t1:=mK (t1.out.ext hx);replace t2:=mK (t2.out.ext hx);replace t3:=mK (t3.out.ext hx);replace t4:=mK (t4.out.ext hx);(have zT:=mK (aL10 ha2));clear hx;replace ha2:=mK ha2;(have hT2:=mK (Ak zT.out));refine wpList_load_row (by rfl) 28 (.tmp 4) rfl (w.heap.size) rfl 28 #[.bool false,.slice la ln lc] (0,0) _ zR.out Tryz.underlying28 rfl (by kernel_rfl) ?_)
  | (replace tok:Tok 25:=nxT 24 tok;refine Ab (by rfl) 58 (.tmp 37) rfl (w.heap.size+1) 1 rfl 60 #[.int .u8 0,.string pn,.int .u8 pk,.bool b1,.slice a1 l1.length c1,.bool b2,.slice a2 l2.length c2,.bool b3,.slice a3 l3.length c3,.bool b4,.slice a4 l4.length c4,.int .i64 co,.string nm,u0,u1,u2,u3] #[.string pn,.int .u8 pk,.bool b1,.slice a1 l1.length c1,.bool b2,.slice a2 l2.length c2,.bool b3,.slice a3 l3.length c3,.bool b4,.slice a4 l4.length c4,.int .i64 co] (0,0) _ zO.out rfl Tryz.underlying58 rfl (by kernel_rfl) ?_)
  | (replace tok:Tok 26:=nxT 25 tok;go_at_call 16;refine (KR.out _ hE.out).mono ?_;rintro e wc3 ⟨a',n',k',rs',rfl,hD1,hR,hx,hB1⟩;replace zR:=mK (hx.blk zR.out);replace zO:=mK (hx.blk zO.out);replace zB:=mK (hx.blk zB.out);replace zT:=mK (hx.blk zT.out);replace hE:=mK (hE.out.trans hx);replace t1:=mK (t1.out.ext hx);replace t2:=mK (t2.out.ext hx);replace t3:=mK (t3.out.ext hx);replace t4:=mK (t4.out.ext hx);clear hx;(have hE1:=hE);replace hD1:=mK hD1;replace hR:=mK hR;(replace hB1:=mK (show ∀ j,refB (.slice a' n' k') rs' j→refB (.slice la ln lc) rs j∨wc1.heap.size≤j from fun j hj=>(hB1 j hj).imp id (fun hk=>by have:=hT2.out;omega))))
  | (replace tok:Tok 27:=nxT 26 tok;(have gl_zN:=mK (And.intro t1.out.lt (And.intro t2.out.lt (And.intro t3.out.lt t4.out.lt))));(have hl_zN:=mK (Ak zB.out));(obtain ⟨wa4,ha4⟩:=nmE (wc3.alloc (.cells #[.bool false,.slice a' n' k'] 28)));rw [←ha4];(have hx:=aLe1 ha4);replace zR:=mK (hx.blk zR.out);replace zO:=mK (hx.blk zO.out);replace zB:=mK (hx.blk zB.out);replace zT:=mK (hx.blk zT.out);replace hE:=mK (hE.out.trans hx);replace t1:=mK (t1.out.ext hx);replace t2:=mK (t2.out.ext hx);replace t3:=mK (t3.out.ext hx);replace t4:=mK (t4.out.ext hx);(have zN:=mK (aL10 ha4));clear hx;replace ha4:=mK ha4;(have hE14:=mK (show Ext wc3 wa4 by rw [ha4.out];exact (xR _).al _));refine wpList_load_row (by rfl) 58 (.tmp 8) rfl (wc1.heap.size) rfl 58 #[.string pn,.int .u8 pk,.bool b1,.slice (some ⟨g1,0,none⟩) l1.length (l1.length+1),.bool b2,.slice (some ⟨g2,0,none⟩) l2.length (l2.length+1),.bool b3,.slice (some ⟨g3,0,none⟩) l3.length (l3.length+1),.bool b4,.slice (some ⟨g4,0,none⟩) l4.length (l4.length+1),.int .i64 co] (0,0) _ zT.out Tryz.underlying58 rfl (by kernel_rfl) ?_)
  | (replace tok:Tok 28:=nxT 27 tok;go_at_call 17;refine (KP.out _ hE.out _ _ _ _ t1.out t2.out t3.out t4.out).mono ?_;rintro e wc5 ⟨rfl,es',hD2,hC2,hX,hB2⟩;(have q0:=hM.out);(have q1:=hl_zT.out);(have q2:=hl_zN.out);(have q3:=Ak zB0.out);(have q4:=hlo.out);(have q5:=Ak zT.out);(have T:=mK (Ye (n0:=wc1.heap.size) h0.out hR.out hE1.out hB1.out hE14.out hC2 hX (fun j hj=>(hB2 j hj).imp id (fun hk=>by omega)) hD1.out hD2 (by omega)));replace zR:=mK ((hX.block (w.heap.size) (Ak zR.out) (show ¬w.heap.size=M by omega)).trans zR.out);replace zO:=mK ((hX.block (w.heap.size+1) (Ak zO.out) (show ¬w.heap.size+1=M by omega)).trans zO.out);replace zB:=mK ((hX.block (w.heap.size+2) (Ak zB.out) (show ¬w.heap.size+2=M by omega)).trans zB.out);replace zT:=mK ((hX.block (wc1.heap.size) (Ak zT.out) (show ¬wc1.heap.size=M by omega)).trans zT.out);replace zN:=mK ((hX.block (wc3.heap.size) (Ak zN.out) (show ¬wc3.heap.size=M by omega)).trans zN.out);replace t1:=mK (t1.out.chg hX (show ¬g1=M by omega));replace t2:=mK (t2.out.chg hX (show ¬g2=M by omega));replace t3:=mK (t3.out.chg hX (show ¬g3=M by omega));replace t4:=mK (t4.out.chg hX (show ¬g4=M by omega));replace H1:=mK (fun W (e:Ext wc5 W)=>((H1.out _ hE.out).chg hX (fun a u hc e'=>Ig (KM.out _ hE.out) hc e')).ext e);replace H2:=mK (fun W (e:Ext wc5 W)=>((H2.out _ hE.out).chg hX (fun a u hc e'=>Ig (KM.out _ hE.out) hc e')).ext e);replace hE:=mK (xR wc5);clear q0 q1 q2 q3 q4 q5 hX hB2 hC2 hD2)
  | (replace tok:Tok 29:=nxT 28 tok;refine Lx (by rfl) 58 (.tmp 8) rfl (wc1.heap.size) rfl 58 #[.string pn,.int .u8 pk,.bool b1,.slice (some ⟨g1,0,none⟩) l1.length (l1.length+1),.bool b2,.slice (some ⟨g2,0,none⟩) l2.length (l2.length+1),.bool b3,.slice (some ⟨g3,0,none⟩) l3.length (l3.length+1),.bool b4,.slice (some ⟨g4,0,none⟩) l4.length (l4.length+1),.int .i64 co] (0,0) _ zT.out Tryz.underlying58 rfl (by kernel_rfl) ?_)
  | (replace tok:Tok 30:=nxT 29 tok;refine Cv (by rfl) 58 (.tmp 50) rfl (w.heap.size+1) 1 rfl 60 #[.int .u8 0,.string pn,.int .u8 pk,.bool b1,.slice a1 l1.length c1,.bool b2,.slice a2 l2.length c2,.bool b3,.slice a3 l3.length c3,.bool b4,.slice a4 l4.length c4,.int .i64 co,.string nm,u0,u1,u2,u3] #[.string pn,.int .u8 pk,.bool b1,.slice a1 l1.length c1,.bool b2,.slice a2 l2.length c2,.bool b3,.slice a3 l3.length c3,.bool b4,.slice a4 l4.length c4,.int .i64 co] (0,0) _ zO.out rfl Tryz.underlying58 rfl (by kernel_rfl) ?_)
  | (replace tok:Tok 31:=nxT 30 tok;go_at_call 18;refine (Zs pn pk co b1 l1 a1 (some ⟨g1,0,none⟩) l1.length c1 (l1.length+1) b2 l2 a2 (some ⟨g2,0,none⟩) l2.length c2 (l2.length+1) b3 l3 a3 (some ⟨g3,0,none⟩) l3.length c3 (l3.length+1) b4 l4 a4 (some ⟨g4,0,none⟩) l4.length c4 (l4.length+1) _ K'.out.1 K'.out.2.1 K'.out.2.2.1 K'.out.2.2.2 (TwG.twf t1.out t2.out b1 b2) (TwG.twf t3.out t4.out b3 b4) (H1.out _ hE.out) (H2.out _ hE.out)).mono ?_;rintro e wc6 ⟨rfl,hx⟩;replace zR:=mK (hx.blk zR.out);replace zO:=mK (hx.blk zO.out);replace zB:=mK (hx.blk zB.out);replace zT:=mK (hx.blk zT.out);replace zN:=mK (hx.blk zN.out);replace hE:=mK (hE.out.trans hx);replace t1:=mK (t1.out.ext hx);replace t2:=mK (t2.out.ext hx);replace t3:=mK (t3.out.ext hx);replace t4:=mK (t4.out.ext hx);clear hx)
  | (replace tok:Tok 32:=nxT 31 tok;(have gl_zK:=mK (And.intro t1.out.lt (And.intro t2.out.lt (And.intro t3.out.lt t4.out.lt))));(have nk:=mK (Ak zN.out));(have hs6:=mK hE.out.size);(have hl_zK:=mK (Ak zB.out));(obtain ⟨wa7,ha7⟩:=nmE (wc6.alloc (.cells #[.int .i64 0,.slice none 0 0,.slice none 0 0,.slice none 0 0,.slice none 0 0,.slice none 0 0,.slice none 0 0,.slice none 0 0,.slice none 0 0,.slice none 0 0,.slice none 0 0,.slice none 0 0,.slice none 0 0,.slice none 0 0,.slice none 0 0,.slice none 0 0,.slice none 0 0] 46)));rw [←ha7];(have hx:=aLe1 ha7);replace zR:=mK (hx.blk zR.out);replace zO:=mK (hx.blk zO.out);replace zB:=mK (hx.blk zB.out);replace zT:=mK (hx.blk zT.out);replace zN:=mK (hx.blk zN.out);replace hE:=mK (hE.out.trans hx);replace t1:=mK (t1.out.ext hx);replace t2:=mK (t2.out.ext hx);replace t3:=mK (t3.out.ext hx);replace t4:=mK (t4.out.ext hx);(have zK:=mK (aL10 ha7));clear hx;replace ha7:=mK ha7;refine wpList_load_row (by rfl) 58 (.tmp 8) rfl (wc1.heap.size) rfl 58 #[.string pn,.int .u8 pk,.bool b1,.slice (some ⟨g1,0,none⟩) l1.length (l1.length+1),.bool b2,.slice (some ⟨g2,0,none⟩) l2.length (l2.length+1),.bool b3,.slice (some ⟨g3,0,none⟩) l3.length (l3.length+1),.bool b4,.slice (some ⟨g4,0,none⟩) l4.length (l4.length+1),.int .i64 co] (0,0) _ zT.out Tryz.underlying58 rfl (by kernel_rfl) ?_)
  | (replace tok:Tok 33:=nxT 32 tok;go_at_call 10;refine (Aau wa7 (wc6.heap.size) wb.heap.size _ pn pk co b1 b2 b3 b4 g1 l1.length g2 l2.length g3 l3.length g4 l4.length zK.out ?hbase).mono ?_;(case hbase=>have b1:=hlo.out.1;have b2:=t1.out.lt;omega);rintro e wc8 ⟨rfl,hB,hK⟩;replace hB:=mK hB;clear hK))
 have hB':=hB.out;have hlo1:=hlo.out;have hgN:=gl_zN.out;have hgT:=gl_zT.out;have hgK:=gl_zK.out;have hnk:=nk.out;have h6:=hs6.out;have hlT:=hl_zT.out;have hbw:=Ak zB0.out;have hKlt:=Ak zK.out;obtain ⟨hl1,hl2,hl3,hl4⟩:=hlo1;obtain ⟨hn1,hn2,hn3,hn4⟩:=hgN;obtain ⟨hk1,hk2,hk3,hk4⟩:=hgK;obtain ⟨hg1,hg2,hg3,hg4⟩:=hgT;have zN3:=(hB'.c.block (wc3.heap.size) (Ak zN.out) (show ¬wc3.heap.size=wc6.heap.size by omega)).trans zN.out;have cN3:=Ac zN3;replace zN3:=mK zN3;have HA:=mK (fun W (e:Ext wc8 W)=>Yf wa7 (wc6.heap.size) wb.heap.size g1 g2 g3 g4 l1 l2 l3 l4 W (BookS.ext hB' e) hne.out ⟨hl1,hl2,hl3,hl4⟩ (by omega) t1.out t2.out t3.out t4.out K.out.1 K.out.2.1 K.out.2.2.1 K.out.2.2.2);replace hB':=mK hB'
 go_region_with
  ((go_at_call 11;refine (HA.out _ ?_).mono ?_;(first|exact xR _|exact (xR _).dr);rintro e wz ⟨rfl,hC⟩;(have zNz:=(hC.block (wc3.heap.size) (Ak zN.out) (by omega)).trans zN.out);(have zBz:=(hC.block (w.heap.size+2) (Ak zB.out) (by omega)).trans zB.out);(have cNz:=Ac zNz);(have cBz:=Ac zBz);(have fBz:=Dm zBz);replace zBz:=mK zBz;replace hC:=mK hC;clear zNz))
 all_goals
  rw [Kv zBz.out];clear cNz cBz fBz cN3;go_wp2_with fail;refine bodyPost_ret (Ae rfl _ _ (w.heap.size+2) 28 #[.bool false,.slice a' n' k'] _ _ rfl rfl (setRow_heap _ _ _ _ _ _ zBz.out) Tryz.underlying28 rfl (by kernel_rfl)) rfl ?_;refine AskQ.fin h0.out T.out (by omega) (S:=fun j=>((j=g1∨j=g2∨j=g3∨j=g4)∨j=wc6.heap.size)∨j=w.heap.size+2) (((Chg.of_ext hE.out _).trans (hC.out.mono fun j _ hj=>.inl hj)).trans ((Chg.set wz (w.heap.size+2) _).mono fun j _ hj=>.inr hj)) ?_;rintro j (((rfl|rfl|rfl|rfl)|rfl)|rfl)<;>omega
def Lr (n1 n2 n3 n4:Nat):Int:=1+n1+(1+n2)+(1+n3+(1+n4))
theorem Abo {n1 n2 n3 n4:Nat}(hn1:n1≤140737488355328)(hn2:n2≤140737488355328)(hn3:n3≤140737488355328)(hn4:n4≤140737488355328):0≤Lr n1 n2 n3 n4∧Lr n1 n2 n3 n4≤1125899906842624:=by
 unfold Lr;omega
theorem Rx (kd:Int)(b1:Bool)(a1:Option Addr)(n1 c1:Nat)(b2:Bool)(a2:Option Addr)(n2 c2:Nat)(b3:Bool)(a3:Option Addr)(n3 c3:Nat)(b4:Bool)(a4:Option Addr)(n4 c4:Nat)(w:World)(hn1:n1≤140737488355328)(hn2:n2≤140737488355328)(hn3:n3≤140737488355328)(hn4:n4≤140737488355328) :
  Calls Tryz.prog 83 #[.agg #[.int .u8 kd,.bool b1,.slice a1 n1 c1,.bool b2,.slice a2 n2 c2,.bool b3,.slice a3 n3 c3,.bool b4,.slice a4 n4 c4]] w fun e w'=>e=.returned (.int .i64 (Lr n1 n2 n3 n4))∧Ext w w':=by
 have k1:=mK (fun w=>Ke b1 b2 a1 a2 n1 c1 n2 c2 w hn1 hn2);have k2:=mK (fun w=>Ke b3 b4 a3 a4 n3 c3 n4 c4 w hn3 hn4);unfold Lr;obtain ⟨S,hS⟩:=nmE (1+n1+(1+n2):Int);obtain ⟨T,hT⟩:=nmE (1+n3+(1+n4):Int);rw [←hS] at k1;rw [←hT] at k2;rw [←hS,←hT];have hS0:0≤S∧S≤562949953421312:=by omega
 have hT0:0≤T∧T≤562949953421312:=by omega
 clear hS hT hn1 hn2 hn3 hn4;obtain ⟨hS1,hS2⟩:=hS0;obtain ⟨hT1,hT2⟩:=hT0;go_enter Tryz.func83,Tryz.ntmps83;go_wp2_with fail;obtain ⟨wb,hwb⟩:=nmE (w.alloc (.cells #[.int .u8 kd,.bool b1,.slice a1 n1 c1,.bool b2,.slice a2 n2 c2,.bool b3,.slice a3 n3 c3,.bool b4,.slice a4 n4 c4] 56));have hE:=mK (aLe1 hwb);have z0:=aL10 hwb;obtain ⟨z_0,z_1,z_2,z_3,z_4,z_5,z_6,z_7,z_8⟩:=ceX8 z0;rw [←hwb];clear hwb z0;apply Ad [.val _,.val _,.val (.int .i64 S),.val _,.val _,.val (.int .i64 T),.val (.int .i64 (S+T))] (by kernel_rfl) (stable_vals _ (stable_vals _ (stable_vals _ (stable_vals _ (stable_vals _ (stable_vals _ (stable_vals _ trivial)))))));iterate 2 (refine ⟨fun W hW _=>by go_simp;exact ⟨xR _,rfl⟩,?_⟩)
 refine ⟨fun W hW _=>?g2,?_⟩
 case g2=>
  go_simp;refine (k1.out W).mono ?_;rintro e w' ⟨rfl,h1⟩;exact ⟨rfl,h1⟩
 iterate 2 (refine ⟨fun W hW _=>by go_simp;exact ⟨xR _,rfl⟩,?_⟩)
 refine ⟨fun W hW _=>?g5,⟨fun W hW _=>by go_simp;exact ⟨xR _,by rw [IntKind.wrap_i64];omega⟩,?_⟩⟩
 case g5=>
  go_simp;refine (k2.out W).mono ?_;rintro e w' ⟨rfl,h1⟩;exact ⟨rfl,h1⟩
 intro W hW _;clear z_0 z_1 z_2 z_3 z_4 z_5 z_6 z_7 z_8;replace hE:=mK (hE.out.trans hW);clear hW;go_simp;go_wp2_with fail;go_ret;exact ⟨by trivial,hE.out⟩
theorem Wd (nm:ByteArray)(kd co:Int)(b1:Bool)(a1:Option Addr)(n1 c1:Nat)(b2:Bool)(a2:Option Addr)(n2 c2:Nat)(b3:Bool)(a3:Option Addr)(n3 c3:Nat)(b4:Bool)(a4:Option Addr)(n4 c4:Nat)(g:Nat)(w:World)(hn1:n1≤140737488355328)(hn2:n2≤140737488355328)(hn3:n3≤140737488355328)(hn4:n4≤140737488355328)(hnm:nm.size≤140737488355328)
  (hg:w.heap[g]? = some (.cells #[.string nm,.int .u8 kd,.bool b1,.slice a1 n1 c1,.bool b2,.slice a2 n2 c2,.bool b3,.slice a3 n3 c3,.bool b4,.slice a4 n4 c4,.int .i64 co] 58 (0,0))) :
  Calls Tryz.prog 13 #[.slice (some ⟨g,0,none⟩) 1 1] w fun e w'=>e=.returned (.int .i64 (1+nm.size+Lr n1 n2 n3 n4))∧Ext w w':=by
 have k1:=mK (fun w=>Rx kd b1 a1 n1 c1 b2 a2 n2 c2 b3 a3 n3 c3 b4 a4 n4 c4 w hn1 hn2 hn3 hn4);obtain ⟨hb1,hb2⟩:=Abo hn1 hn2 hn3 hn4;generalize Lr n1 n2 n3 n4=S at *;clear hn1 hn2 hn3 hn4;obtain ⟨z_0,z_1,z_2,z_3,z_4,z_5,z_6,z_7,z_8,z_9,z_10⟩:=Ait hg;clear hg;obtain ⟨m,hm⟩:=nmE nm.size;rw [←hm] at hnm ⊢;replace hm:=mK hm;go_enter Tryz.func13,Tryz.ntmps13;go_wp2_with fail;refine wp_loop_rounds 2 ?_;rw [rounds_succ];go_wp2_with fail;apply Nq [.val _,.val _,.val _,.val _,.val _,.val _,.val (.int .i64 m),.val (.int .i64 (1+m)),.val _,.val _,.val _,.val _,.val _,.val (.int .i64 S),.val (.int .i64 (1+m+S))] (by kernel_rfl) (stable_vals _ (stable_vals _ (stable_vals _ (stable_vals _ (stable_vals _ (stable_vals _ (stable_vals _ (stable_vals _ (stable_vals _ (stable_vals _ (stable_vals _ (stable_vals _ (stable_vals _ (stable_vals _ (stable_vals _ trivial)))))))))))))));iterate 6 (refine ⟨fun W hW _=>by go_simp;exact ⟨xR _,rfl⟩,?_⟩)
 refine ⟨fun W hW _=>by go_simp;first|exact ⟨xR _,hm.out.symm⟩|exact ⟨xR _,by rw [hm.out]⟩|exact xR _,?_⟩;refine ⟨fun W hW _=>by go_simp;exact ⟨xR _,by rw [IntKind.wrap_i64];omega⟩,?_⟩;iterate 5 (refine ⟨fun W hW _=>by go_simp;exact ⟨xR _,rfl⟩,?_⟩)
 refine ⟨fun W hW _=>?g5,⟨fun W hW _=>by go_simp;exact ⟨xR _,by rw [IntKind.wrap_i64];omega⟩,?_⟩⟩
 case g5=>
  go_simp;refine (k1.out W).mono ?_;rintro e w' ⟨rfl,h1⟩;exact ⟨rfl,h1⟩
 intro W hW _;clear z_0 z_1 z_2 z_3 z_4 z_5 z_6 z_7 z_8 z_9 z_10;replace hW:=mK hW;go_simp;go_wp2_with fail;rw [rounds_succ];go_wp2_with fail;go_ret;exact ⟨by trivial,hW.out⟩
def SlP (cs:Array Value)(w:World)(v:Value):Prop:=∃ b,v=.slice (some ⟨b,0,none⟩) 1 1∧w.heap[b]? = some (.cells cs 58 (0,0))
theorem Ai0 {ss:List FSpec}(cs:Array Value)(h:StableAll Ext ss):StableAll Ext (.pred (SlP cs)::ss):=
 ⟨fun _ _ _ e ⟨b,h1,h2⟩=>⟨b,h1,e.blk h2⟩,h⟩
end Go.Proofs.YteogdoglboddhaaGreatDoor
namespace Go.Proofs.YteogdoglboddhaaGreatDoor
set_option maxRecDepth 100000
open Go Go.ChangeShapes Go.WideShapes Go.ChangeAt Go.RowKit Go.Joins Go.Deep
def IsN (n:Nat)(vs:List Value):Prop:=∀ v∈vs,v.cells.size=n
theorem Es {n:Nat}:∀ {vs:List Value},IsN n vs→(Be vs).length=vs.length*n
 | [],_=>by simp [Be]
 | v::r,h=>by
  have e:v.cells.toList.length=n:=by simpa using h v (List.mem_cons_self ..)
  have ih:=Es (vs:=r) fun y hy=>h y (List.mem_cons_of_mem _ hy)
  rw [Gg,List.length_append,ih,e,List.length_cons,Nat.succ_mul,Nat.add_comm]
theorem Qz {n:Nat}{vs:List Value}(h:IsN n vs){i:Nat}(hi:i<vs.length)(j:Nat)(hj:j<n):(Be vs)[i*n+j]? = vs[i].cells[j]?:=by
 have e:vs=vs.take i++vs[i]::vs.drop (i+1):=by rw [←List.drop_eq_getElem_cons hi,List.take_append_drop]
 have h1:(Be (vs.take i)).length=i*n:=by
  rw [Es (n:=n) (fun v hv=>h v (List.mem_of_mem_take hv)),List.length_take];congr 1;omega
 have hc:vs[i].cells.size=n:=h vs[i] (List.getElem_mem hi);have hcl:vs[i].cells.toList.length=n:=by simpa using hc
 have e2:Be vs=Be (vs.take i)++(vs[i].cells.toList++Be (vs.drop (i+1))):=by
  rw [←Gg,←Jh,←e]
 rw [e2,List.getElem?_append_right (by omega),h1,List.getElem?_append_left (by omega)];rw [show i*n+j-i*n=j by omega];simp
theorem Yz {n:Nat}{w:World}{a:Option Addr}{vs:List Value}(h:Row w a (Be vs))(his:IsN n vs)(hn:0<n){k:Nat}(hk:k<vs.length):∃ b o,a=some ⟨b,o,none⟩∧w.rangeAt b (o+k*n) vs[k].cells.toList:=by
 obtain ⟨b,o,ha,hr⟩:=h;have hl:=Es his;have hpos:(k+1)*n≤vs.length*n:=Nat.mul_le_mul_right _ hk;rw [Nat.succ_mul] at hpos
 have hne:Be vs≠[]:=by
  intro e;rw [e,List.length_nil] at hl;omega
 refine ⟨b,o,ha hne,fun j v hv=>?_⟩;have hcl:vs[k].cells.toList.length=n:=by simpa using his vs[k] (List.getElem_mem hk)
 have hj:j<n:=by have:=(List.getElem?_eq_some_iff.1 hv).1;omega
 have h1:=hr (k*n+j) (by omega);have h2:=Qz his hk j hj;rw [List.getD_eq_getElem?_getD,h2] at h1;have h3:vs[k].cells[j]? = some v:=by simpa using hv
 rw [h3] at h1;rw [Nat.add_assoc];exact h1
structure InO (w:World) (s:Value) (vs:List Value):Prop where
 at':∃ a c,s=.slice a vs.length c∧vs.length≤c∧Row w a (Be vs)
 len:vs.length≤1099511627776
 raw:∀ v∈vs,RawOp w v
theorem RawOp.is {w:World}{vs:List Value}(h:∀ v∈vs,RawOp w v):IsN 17 vs:=fun v hv=>by
 obtain ⟨kd,pn,pk,p1,p2,p3,p4,q1,q2,q3,q4,co,nm,u1,u2,u3,u4,rfl,-⟩:=h v hv
 rfl
theorem RawF.ext {w w':World}{v:Value}(h:RawF w v)(e:Ext w w'):RawF w' v:=by
 obtain ⟨b1,a1,c1,b2,a2,c2,l1,l2,e1,k1,k2,k3,k4⟩:=h;exact ⟨b1,a1,c1,b2,a2,c2,l1,l2,e1,k1,k2,k3.ext e,k4.ext e⟩
theorem RawOp.ext {w w':World}{v:Value}(h:RawOp w v)(e:Ext w w'):RawOp w' v:=by
 obtain ⟨kd,pn,pk,p1,p2,p3,p4,q1,q2,q3,q4,co,nm,u1,u2,u3,u4,e0,k1,k2,f1,f2,f3⟩:=h;exact ⟨kd,pn,pk,p1,p2,p3,p4,q1,q2,q3,q4,co,nm,u1,u2,u3,u4,e0,k1,k2,f1.ext e,f2.ext e,f3.ext e⟩
theorem InO.ext {w w':World}{s:Value}{vs:List Value}(h:InO w s vs)(e:Ext w w'):InO w' s vs:=by
 obtain ⟨⟨a,c,h1,h2,h3⟩,hl,hr⟩:=h;exact ⟨⟨a,c,h1,h2,h3.ext e⟩,hl,fun v hv=>(hr v hv).ext e⟩
theorem InO.get {w:World}{s:Value}{vs:List Value}(h:InO w s vs){k:Nat}(hk:k<vs.length):∃ b o c,s=.slice (some ⟨b,o,none⟩) vs.length c∧vs.length≤c∧w.rangeAt b (o+k*17) vs[k].cells.toList:=by
 obtain ⟨a,c,rfl,hc,hr⟩:=h.at';obtain ⟨b,o,rfl,h2⟩:=Yz hr (RawOp.is h.raw) (by decide) hk;exact ⟨b,o,c,rfl,hc,h2⟩
theorem InO.slice {w:World}{s:Value}{vs:List Value}(h:InO w s vs):∃ a c,s=.slice a vs.length c∧vs.length≤c:=by
 obtain ⟨a,c,e,hc,-⟩:=h.at';exact ⟨a,c,e,hc⟩
theorem RawOp.lens {w:World}{v:Value}(h:RawOp w v):∃ (kd:Int) (pn:ByteArray) (pk co:Int) (nm:ByteArray) (p q u:FV),v=.agg #[.int .u8 kd,.string pn,.int .u8 pk,.bool p.b1,.slice p.a1 p.n1 p.c1,.bool p.b2,.slice p.a2 p.n2 p.c2,.bool q.b1,.slice q.a1 q.n1 q.c1,.bool q.b2,.slice q.a2 q.n2 q.c2,.int .i64 co,.string nm,.bool u.b1,.slice u.a1 u.n1 u.c1,.bool u.b2,.slice u.a2 u.n2 u.c2]∧pn.size≤140737488355328∧nm.size≤140737488355328 ∧
  (p.n1≤140737488355328∧p.n2≤140737488355328)∧(q.n1≤140737488355328∧q.n2≤140737488355328)∧(u.n1≤140737488355328∧u.n2≤140737488355328)∧RawF w (.agg #[.bool p.b1,.slice p.a1 p.n1 p.c1,.bool p.b2,.slice p.a2 p.n2 p.c2])∧RawF w (.agg #[.bool q.b1,.slice q.a1 q.n1 q.c1,.bool q.b2,.slice q.a2 q.n2 q.c2])∧RawF w (.agg #[.bool u.b1,.slice u.a1 u.n1 u.c1,.bool u.b2,.slice u.a2 u.n2 u.c2]):=by
 obtain ⟨kd,pn,pk,p1,p2,p3,p4,q1,q2,q3,q4,co,nm,u1,u2,u3,u4,e,h1,h2,f1,f2,f3⟩:=h
 have key:∀ {x1 x2 x3 x4:Value},RawF w (.agg #[x1,x2,x3,x4])→∃ f:FV,x1=.bool f.b1∧x2=.slice f.a1 f.n1 f.c1∧x3=.bool f.b2∧x4=.slice f.a2 f.n2 f.c2∧f.n1≤140737488355328∧f.n2≤140737488355328:=by
  rintro x1 x2 x3 x4 ⟨b1,a1,c1,b2,a2,c2,l1,l2,e1,k1,k2,-,-⟩;simp only [Value.agg.injEq,Array.mk.injEq,List.cons.injEq,and_true] at e1;obtain ⟨rfl,rfl,rfl,rfl⟩:=e1;exact ⟨⟨b1,a1,_,c1,b2,a2,_,c2⟩,rfl,rfl,rfl,rfl,k1,k2⟩
 obtain ⟨p,rfl,rfl,rfl,rfl,y1,y2⟩:=key f1;obtain ⟨q,rfl,rfl,rfl,rfl,y3,y4⟩:=key f2;obtain ⟨u,rfl,rfl,rfl,rfl,y5,y6⟩:=key f3;exact ⟨kd,pn,pk,co,nm,p,q,u,e,h1,h2,⟨y1,y2⟩,⟨y3,y4⟩,⟨y5,y6⟩,f1,f2,f3⟩
theorem Agf:Tryz.prog.bytesOf 60=248:=by kernel_rfl
section
variable {H:Type} {enc:TypeId×Value→H} {w:World} {base:Nat} {spare:Nat→Bool} {held:Bool}
theorem Ae8 {fuel:Nat}{cs:List Value}{x:DataW H×List MemPlace}(h:DataW.trod enc Tryz.prog w base spare held fuel 22 cs=some x)(M:Nat)(hw:∀ k∈x.1.weights Tryz.prog 22,k≤M)(hM:M≤140737488355328) :
  ∃ s vs,cs=[s]∧InO w s vs:=by
 rcases open_slice Tryz.underlying22 h with ⟨rfl,_⟩|⟨a,len,cap,m,n,D,Pl,rfl,hb,hl,hm,hmm,rfl,hi⟩
 ·exact ⟨_,[],rfl,⟨none,0,rfl,nR _,Hf w⟩,by simp,fun v hv=>by cases hv⟩
 ·have hlm:len≤m:=by rw [hmm];split<;>omega
  have hwt:len*248≤M:=by
   have:=hw ((len+(m-len))*Tryz.prog.bytesOf 60) (by simp [DataW.weights,Tryz.underlying22]);rw [Agf] at this;exact nT (Nat.mul_le_mul_right _ (by omega)) this
  have each:∀ i,i<len→∃ v,RawOp w v∧∀ j,j<17→w.cell? (a.add (i*17+j))=v.cells[j]?:=by
   intro i hlt;obtain ⟨cs',h1,h2⟩:=hi i (by omega)
   have hwi:∀ k∈(D i).weights Tryz.prog 60,k≤M:=by
    intro k hk;refine hw k ?_;have:D i∈(List.range len).map D:=List.mem_map.2 ⟨i,List.mem_range.2 hlt,rfl⟩;simp only [DataW.weights,Tryz.underlying22];exact List.mem_cons_of_mem _ (List.mem_append_left _ (Hu this hk))
   have hraw:=Ahp h2 M hwi hM;rw [Xv] at h1;obtain ⟨_,_,hat⟩:=World.cells?_some h1;refine ⟨.agg cs'.toArray,hraw,fun j hj=>?_⟩;have:=hat j hj
   have hadd:(a.add (i*17)).add j=a.add (i*17+j):=by
    unfold Addr.add;by_cases h1:i*17=0<;>by_cases h2:j=0<;>simp [h1,h2,Nat.add_assoc]<;>omega
   rw [hadd] at this;rw [this];simp [Value.cells]
  obtain ⟨vs,hvl,hve⟩:∃ vs:List Value,vs.length=len∧∀ i (h:i<vs.length),RawOp w vs[i]∧∀ j,j<17→w.cell? (a.add (i*17+j))=vs[i].cells[j]?:=by
   clear hi hl hm hmm hlm hwt hw h;induction len with
   | zero=>exact ⟨[],rfl,fun i h=>absurd h (Nat.not_lt_zero _)⟩
   | succ n ih=>
    obtain ⟨vs,h1,h2⟩:=ih (fun i hi=>each i (by omega));obtain ⟨v,h3,h4⟩:=each n (by omega);refine ⟨vs++[v],by simp [h1],fun i hi=>?_⟩;rcases Nat.lt_or_ge i vs.length with h|h
    ·rw [List.getElem_append_left h]
     exact h2 i h
    ·have:i=n:=by simp at hi;omega
     subst this;rw [List.getElem_append_right h];simp only [h1,Nat.sub_self,List.getElem_cons_zero];exact ⟨h3,h4⟩
  subst hvl
  have hraw:∀ v∈vs,RawOp w v:=fun v hv=>by
   obtain ⟨i,hi',rfl⟩:=List.mem_iff_getElem.1 hv;exact (hve i hi').1
  have his:IsN 17 vs:=RawOp.is hraw
  have hcell:∀ j,j<(Be vs).length→w.cell? (a.add j)=some ((Be vs).getD j undef):=by
   intro j hj;rw [Es his] at hj;have hq:j/17<vs.length:=by omega
   have hr:j%17<17:=by omega
   have e:j=j/17*17+j%17:=by omega
   have h1:=(hve _ hq).2 _ hr;have h2:=Qz his hq _ hr;rw [←e] at h1 h2;rw [h1,←h2,List.getD_eq_getElem?_getD,List.getElem?_eq_getElem (by rw [Es his];exact hj)];rfl
  have hspot:(Be vs)≠[]→a=⟨a.block,a.off,none⟩:=by
   intro hne;have h0:0<(Be vs).length:=List.length_pos_iff.2 hne;have:=hcell 0 h0;obtain ⟨bl,of,sp⟩:=a;have:sp=none:=by simpa [Addr.add] using World.cell?_spot this
   subst this;rfl
  refine ⟨_,vs,rfl,⟨some a,cap,rfl,hl,a.block,a.off,fun hne=>by rw [←hspot hne],fun j hj=>?_⟩,by omega,hraw⟩;have hne:Be vs≠[]:=by intro e;rw [e] at hj;simp at hj
  have hadd:a.add j=⟨a.block,a.off+j,none⟩:=by
   rw [hspot hne];unfold Addr.add;split
   ·rename_i h;simp [h]
   ·rfl
  rw [←hadd];exact hcell j hj
end
theorem Aje {H:Type}{enc:TypeId×Value→H}{w:World}{base:Nat}{spare:Nat→Bool}{held:Bool}{r:Reach}{b0:Nat}{v:Value}{d:DataW H}{p:List MemPlace}(hv:Value.okWide Tryz.prog w r b0 22 v)(h:DataW.Trod enc Tryz.prog w base spare held 22 v d p)
  (hM:∀ k∈d.weights Tryz.prog 22,k≤reachBytes):∃ vs,InO w v vs:=by
 obtain ⟨a,len,cap,rfl⟩:=okWide_slice Tryz.underlying22 hv;obtain ⟨fuel,hh⟩:=h;obtain ⟨s,vs,e,hi⟩:=Ae8 hh reachBytes hM Aev
 have:s=.slice a len cap:=by
  have e':[Value.slice a len cap]=[s]:=e;simpa using e'.symm
 subst this;exact ⟨vs,hi⟩
end Go.Proofs.YteogdoglboddhaaGreatDoor
namespace Go.Proofs.YteogdoglboddhaaGreatDoor
set_option maxRecDepth 100000
open Go Go.RowKit Go.Proofs
def Vd (v:Value):Prop:=∃ (kd:Int) (pn:ByteArray) (pk co:Int) (nm:ByteArray) (p q u:FV),v=.agg #[.int .u8 kd,.string pn,.int .u8 pk,.bool p.b1,.slice p.a1 p.n1 p.c1,.bool p.b2,.slice p.a2 p.n2 p.c2,.bool q.b1,.slice q.a1 q.n1 q.c1,.bool q.b2,.slice q.a2 q.n2 q.c2,.int .i64 co,.string nm,.bool u.b1,.slice u.a1 u.n1 u.c1,.bool u.b2,.slice u.a2 u.n2 u.c2]∧(pn.size≤1048576∧nm.size≤1048576)∧(p.n1≤1048576∧p.n2≤1048576)∧(q.n1≤1048576∧q.n2≤1048576)∧(u.n1≤1048576∧u.n2≤1048576)
def ByR (w1:World)(vs:List Value)(t3 t4:Value)(wr:World):Prop:=
 ∃ (n:Int) (k:Nat),k≤vs.length∧t3=.int .i64 n∧t4=.int .i64 k∧(k:Int)≤n∧n≤1048576∧(∀ v∈vs.take k,Vd v)∧Ext w1 wr
def ByQ (w:World)(vs:List Value)(e:Ending)(w':World):Prop:=
 ∃ r:Bool,e=.returned (.bool r)∧(r=false→vs.length≤1048576∧∀ v∈vs,Vd v)∧Ext w w'
theorem Agh (s:Value)(vs:List Value)(w:World)(h:InO w s vs) :
  Calls Tryz.prog 4 #[s] w (ByQ w vs):=by
 obtain ⟨a,c,hs0,hc0⟩:=h.slice;have hlen:=h.len;have hI:=mK (fun W (e:Ext w W)=>h.ext e);obtain ⟨w1,hw1⟩:=nmE w;rw [←hw1] at hI ⊢;subst hs0;clear h hw1;go_enter Tryz.func4,Tryz.ntmps4;go_wp2_with fail;have st:Hid (ByR w1 vs (.int .i64 0) (.int .i64 0) w1):=⟨0,0,Nat.zero_le _,rfl,rfl,by omega,by omega,by simp,xR _⟩
 go_loopw [3,4] (fun t3 t4 wr=>ByR w1 vs t3 t4 wr) (fun _ t4 _=>vs.length-(intOf t4).toNat)
 case atStart=>exact st.out
 case round=>
  clear st;obtain ⟨n,k,hk,rfl,rfl,hn0,hn1,hsmall,hEr⟩:=hrel;obtain ⟨w2,rfl⟩:=nmE (wr:World);by_cases hlt:k<vs.length
  ·have hlt':(k:Int)<(vs.length:Int):=by omega
   have hI2:=hI.out w2 hEr;obtain ⟨b,o,c',e1,hcc,hr⟩:=hI2.get hlt;simp only [Value.slice.injEq,true_and] at e1;obtain ⟨rfl,rfl⟩:=e1;obtain ⟨kd,pn,pk,co,nm,p,q,u,ev,z0,z1,⟨z2,z3⟩,⟨z4,z5⟩,⟨z6,z7⟩,-,-,-⟩:=(hI2.raw _ (List.getElem_mem hlt)).lens;rw [ev] at hr;replace hr:w2.rangeAt b (o+k*17) [.int .u8 kd,.string pn,.int .u8 pk,.bool p.b1,.slice p.a1 p.n1 p.c1,.bool p.b2,.slice p.a2 p.n2 p.c2,.bool q.b1,.slice q.a1 q.n1 q.c1,.bool q.b2,.slice q.a2 q.n2 q.c2,.int .i64 co,.string nm,.bool u.b1,.slice u.a1 u.n1 u.c1,.bool u.b2,.slice u.a2 u.n2 u.c2]:=hr;have hr1:w2.rangeAt b (o+k*17+1) [.string pn,.int .u8 pk,.bool p.b1,.slice p.a1 p.n1 p.c1,.bool p.b2,.slice p.a2 p.n2 p.c2,.bool q.b1,.slice q.a1 q.n1 q.c1,.bool q.b2,.slice q.a2 q.n2 q.c2,.int .i64 co]:=Fy hr 1 11;have hr2:w2.rangeAt b (o+k*17+13) [.bool u.b1,.slice u.a1 u.n1 u.c1,.bool u.b2,.slice u.a2 u.n2 u.c2]:=Fy hr 13 4;have c0:∀ W,Ext w2 W→W.cell? ⟨b,o+k*17+12,none⟩=some (.string nm):=fun W e=>e.cell (hr 12 _ rfl);have HR1:=mK (fun W (e:Ext w2 W)=>Bc hr1 e);have HR2:=mK (fun W (e:Ext w2 W)=>Bc hr2 e);have k1:=mK (fun b W h=>Wd pn pk co p.b1 p.a1 p.n1 p.c1 p.b2 p.a2 p.n2 p.c2 q.b1 q.a1 q.n1 q.c1 q.b2 q.a2 q.n2 q.c2 b W z2 z3 z4 z5 z0 h);have k2:=mK (fun W=>Ke u.b1 u.b2 u.a1 u.a2 u.n1 u.c1 u.n2 u.c2 W z6 z7);obtain ⟨hb1,hb2⟩:=Abo z2 z3 z4 z5;obtain ⟨Z,hZ⟩:=nmE (1+pn.size+Lr p.n1 p.n2 q.n1 q.n2:Int);obtain ⟨F,hF⟩:=nmE (1+u.n1+(1+u.n2):Int);obtain ⟨m,hm⟩:=nmE (nm.size:Int);rw [←hZ] at k1;rw [←hF] at k2;obtain ⟨hZ1,hZ2⟩:0≤Z∧Z≤2251799813685248:=by omega
   obtain ⟨hF1,hF2⟩:0≤F∧F≤1125899906842624:=by omega
   obtain ⟨hm1,hm2⟩:0≤m∧m≤140737488355328:=by omega
   have hnew:n+1+m+Z+F≤1048576→∀ W v4,Ext w2 W→v4=.int .i64 ((k+1:Nat):Int)→ByR w1 vs (.int .i64 (n+1+m+Z+F)) v4 W:=by
    intro hle W v4 hW hv4;refine ⟨n+1+m+Z+F,k+1,by omega,rfl,hv4,by omega,hle,fun v hv=>?_,hEr.trans hW⟩;rw [List.take_succ_eq_append_getElem hlt] at hv;rcases List.mem_append.1 hv with hv|hv
    ·exact hsmall v hv
    ·rw [List.mem_singleton] at hv
     subst hv;unfold Lr at hZ;exact ⟨kd,pn,pk,co,nm,p,q,u,ev,by omega,by omega,by omega,by omega⟩
   replace hnew:=mK hnew;replace hEr:=mK hEr;replace hm:=mK hm;clear hI2 hr hr1 hr2 hsmall z0 z1 z2 z3 z4 z5 z6 z7 ev hZ hF hb1 hb2;go_wp2_with fail;apply Nq [.val (.int .i64 n),.val (.int .i64 (n+1)),.val (.slice (some ⟨b,o,none⟩) vs.length c),.val (.int .i64 k),.val (.pointer (some ⟨b,o+k*17,none⟩)),.val (.pointer (some ⟨b,o+k*17+12,none⟩)),.val (.string nm),.val (.int .i64 m),.val (.int .i64 (n+1+m)),.val (.slice (some ⟨b,o,none⟩) vs.length c),.val (.int .i64 k),.val (.pointer (some ⟨b,o+k*17,none⟩)),.val (.pointer (some ⟨b,o+k*17+1,none⟩)),.val (.agg #[.string pn,.int .u8 pk,.bool p.b1,.slice p.a1 p.n1 p.c1,.bool p.b2,.slice p.a2 p.n2 p.c2,.bool q.b1,.slice q.a1 q.n1 q.c1,.bool q.b2,.slice q.a2 q.n2 q.c2,.int .i64 co]),.pred (SlP #[.string pn,.int .u8 pk,.bool p.b1,.slice p.a1 p.n1 p.c1,.bool p.b2,.slice p.a2 p.n2 p.c2,.bool q.b1,.slice q.a1 q.n1 q.c1,.bool q.b2,.slice q.a2 q.n2 q.c2,.int .i64 co]),.val (.int .i64 Z),.val (.int .i64 (n+1+m+Z)),.val (.slice (some ⟨b,o,none⟩) vs.length c),.val (.int .i64 k),.val (.pointer (some ⟨b,o+k*17,none⟩)),.val (.pointer (some ⟨b,o+k*17+13,none⟩)),.val (.agg #[.bool u.b1,.slice u.a1 u.n1 u.c1,.bool u.b2,.slice u.a2 u.n2 u.c2]),.val (.int .i64 F),.val (.int .i64 (n+1+m+Z+F))] (by kernel_rfl) (stable_vals _ (stable_vals _ (stable_vals _ (stable_vals _ (stable_vals _ (stable_vals _ (stable_vals _ (stable_vals _ (stable_vals _ (stable_vals _ (stable_vals _ (stable_vals _ (stable_vals _ (stable_vals _ (Ai0 _ (stable_vals _ (stable_vals _ (stable_vals _ (stable_vals _ (stable_vals _ (stable_vals _ (stable_vals _ (stable_vals _ (stable_vals _ (trivial)))))))))))))))))))))))));iterate 1 (refine ⟨fun W hW _=>by go_simp;first|exact ⟨xR _,rfl⟩|exact xR _,?_⟩)
   refine ⟨fun W hW _=>by go_simp;exact ⟨xR _,by rw [IntKind.wrap_i64];omega⟩,?_⟩;iterate 5 (refine ⟨fun W hW _=>by go_simp;first|exact ⟨xR _,rfl⟩|exact xR _,?_⟩)
   refine ⟨fun W hW _=>by go_simp;first|exact ⟨xR _,hm.out.symm⟩|exact ⟨xR _,by rw [hm.out]⟩|exact xR _,?_⟩;refine ⟨fun W hW _=>by go_simp;exact ⟨xR _,by rw [IntKind.wrap_i64];omega⟩,?_⟩;iterate 4 (refine ⟨fun W hW _=>by go_simp;first|exact ⟨xR _,rfl⟩|exact xR _,?_⟩)
   refine ⟨?lp,?_⟩
   case lp=>
    intro W hW hF;have hr:=HR1.out W hW;with_reducible refine Bo ?zhw 58 (.tmp 23) ?zho b (o+k*17+1) ?zhx [.string pn,.int .u8 pk,.bool p.b1,.slice p.a1 p.n1 p.c1,.bool p.b2,.slice p.a2 p.n2 p.c2,.bool q.b1,.slice q.a1 q.n1 q.c1,.bool q.b2,.slice q.a2 q.n2 q.c2,.int .i64 co] _ hr Tryz.underlying58 ?zhd ?zhi ?zh
    case zhw=>kernel_rfl
    case zho=>rfl
    case zhx=>kernel_rfl
    case zhd=>rfl
    case zhi=>kernel_rfl
    case zh=>exact ⟨xR _,rfl⟩
   refine ⟨fun W hW _=>?bs,fun v25=>?_⟩
   case bs=>
    go_simp;exact ⟨(xR _).al _,_,rfl,heap_alloc_new _ _⟩
   refine ⟨fun W hW hF=>?cp,?_⟩
   case cp=>
    have hr:SlP #[.string pn,.int .u8 pk,.bool p.b1,.slice p.a1 p.n1 p.c1,.bool p.b2,.slice p.a2 p.n2 p.c2,.bool q.b1,.slice q.a1 q.n1 q.c1,.bool q.b2,.slice q.a2 q.n2 q.c2,.int .i64 co] W v25:=hF.1 rfl;obtain ⟨b,rfl,hb⟩:=hr;go_simp;refine (k1.out b W hb).mono ?_;rintro e w' ⟨rfl,h1⟩;exact ⟨rfl,h1⟩
   refine ⟨fun W hW _=>by go_simp;exact ⟨xR _,by rw [IntKind.wrap_i64];omega⟩,?_⟩;iterate 4 (refine ⟨fun W hW _=>by go_simp;first|exact ⟨xR _,rfl⟩|exact xR _,?_⟩)
   refine ⟨?lf,?_⟩
   case lf=>
    intro W hW hF;have hr:=HR2.out W hW;with_reducible refine Bo ?zhw 54 (.tmp 31) ?zho b (o+k*17+13) ?zhx [.bool u.b1,.slice u.a1 u.n1 u.c1,.bool u.b2,.slice u.a2 u.n2 u.c2] _ hr Tryz.underlying54 ?zhd ?zhi ?zh
    case zhw=>kernel_rfl
    case zho=>rfl
    case zhx=>kernel_rfl
    case zhd=>rfl
    case zhi=>kernel_rfl
    case zh=>exact ⟨xR _,rfl⟩
   refine ⟨fun W hW _=>?cf,⟨fun W hW _=>by go_simp;exact ⟨xR _,by rw [IntKind.wrap_i64];omega⟩,?_⟩⟩
   case cf=>
    go_simp;refine (k2.out W).mono ?_;rintro e w' ⟨rfl,h1⟩;exact ⟨rfl,h1⟩
   intro W hW _;clear c0 HR1 HR2 k1 k2;replace hW:=mK hW;obtain ⟨S,hS⟩:=nmE (n+1+m+Z+F:Int);rw [←hS] at hnew ⊢;have hS0:(k:Int)≤S:=by omega
   clear hS hm hm1 hm2 hZ1 hZ2 hF1 hF2;go_simp;by_cases hc:1048576<S
   ·have hd:decide (1048576<S)=true:=decide_eq_true hc
    have hq:Hid (ByQ w1 vs (.returned (.bool true)) W):=⟨true,rfl,(fun h=>by cases h),hEr.out.trans hW.out⟩
    clear hnew hEr hW;go_wp2_with fail;go_ret;exact hq.out
   ·have hd:decide (1048576<S)=false:=decide_eq_false hc
    have hle:S≤1048576:=by omega
    have hnew2:=mK (hnew.out hle);clear hnew hc hle;go_wp2_with fail;refine ⟨hnew2.out _ _ hW.out (by go_num),by simp [intOf];omega⟩
  ·have hke:k=vs.length:=by omega
   subst hke;have hq:Hid (ByQ w1 vs (.returned (.bool false)) w2):=⟨false,rfl,(fun _=>by rw [List.take_length] at hsmall;exact ⟨by omega,hsmall⟩),hEr⟩
   clear hsmall hEr;go_wp2_with fail;go_ret;exact hq.out
theorem Agn (w0:World)(bk base:Nat)(es ps:List Ent)(w:World)(ht:Tab10 w0)(hE0:Ext w0 w)(hlo:w0.heap.size≤base)(h:BkI base bk es ps w)(hes:es≠[])(hps:ps≠[])(l1:es.length≤1000000)(l2:ps.length≤1000000) :
 Calls Tryz.prog 11 #[.pointer (some ⟨bk,0,none⟩)] w fun e w'=>e=.returned (.bool true)∧Chg w w' (BkP bk es ps w):=by
 obtain ⟨sa,sc,c1,o1⟩:=h.l;obtain ⟨sb,sd,c12,o12⟩:=h.p;obtain ⟨hb,cap,e1,hH,hbb,hb4⟩:=o1.holds hes;obtain ⟨hc,cap2,e2,hH2,hcb,hc4⟩:=o12.holds hps;rw [e1] at c1;rw [e2] at c12;have ob:OwnB bk 1 w hb:=⟨_,_,_,c1,rfl⟩
 have oc:OwnB bk 12 w hc:=⟨_,_,_,c12,rfl⟩
 obtain ⟨n1,n2,n3,n4⟩:=h.s1 hb ob;obtain ⟨m1,m2,m3⟩:=h.s2 hc oc;have nbc:hb≠hc:=fun e=>n2 (e ▸ oc);have nbk:¬Blocks es bk:=fun x=>(h.s3 bk x).1 rfl;have hbs:base≤w.heap.size:=Nat.le_of_lt (Nat.lt_of_le_of_lt h.bs h.lt);have xE:∀ g,Blocks es g→w0.heap.size≤g:=fun g x=>nT hlo (h.ltE g x).1;have xP:∀ g,Blocks ps g→w0.heap.size≤g:=fun g x=>nT hlo (h.ltP g x).1;have xb:w0.heap.size≤hb:=nT hlo hbb;have xc:w0.heap.size≤hc:=nT hlo hcb;have sP:∀ g,Blocks ps g→¬Blocks es g:=fun g x y=>(h.s3 g y).2 x;have sE:∀ g,Blocks es g→¬Blocks ps g:=fun g x y=>(h.s3 g x).2 y;have tE:∀ {a b:World} {S:Nat→Prop},Ext w0 a→Chg a b S→(∀ g,S g→w0.heap.size≤g)→Ext w0 b:=fun {a b S} e c s=>c.ext w0 e fun k hk x=>by have:=s k x;omega
 have Z:∀ i,(i≠0∧i≠1∧i≠12)→i≤16→w.cell? ⟨bk,i,none⟩=some (.slice none 0 0):=fun i a b=>h.z i a.1 a.2.1 a.2.2 b;have HF:=Qu bk hb cap base es w c1 l1 hH h.L h.D nbk n3 (fun i hi=>⟨(h.ne i hi).1,by have:=(h.ne i hi).2;omega⟩);have HFP:=fun w1 (f1:Hd base 136 Ax w w1 es es.length)=>Aag w0 bk hc cap2 base ps w1 ht (tE hE0 f1.1 xE) xP (f1.1.cell c12 nbk) l2 (hH2.chg f1.1 m2) (h.LP.chg f1.1 sE) h.DP h.s4 m3 h.np
 have HG:=fun w1 w2 (f1:Hd base 136 Ax w w1 es es.length) (f2:Ji base 58 11 mkPL w1 w2 ps ps.length)=>Qp bk hb cap base es w2 (f2.1.cell (f1.1.cell c1 nbk) h.s4) l1 ((hH.chg f1.1 n3).chg f2.1 n4) (f1.2.1.chg f2.1 sP) h.D nbk n3 (Ne.symm n1)
  (Nat.lt_of_lt_of_le hb4 (nT f1.1.size f2.1.size)) (nT hbs (nT f1.1.size f2.1.size)) (fun i hi=>⟨(h.ne i hi).1,by have:=(h.ne i hi).2;omega⟩)
 have gE:∀ g,(Blocks es g∨g=hb)→w0.heap.size≤g:=fun g x=>by rcases x with x|rfl;exact xE g x;exact xb
 have gP:∀ g,(Blocks es g∨g=hb)→¬Blocks ps g:=fun g x=>by rcases x with x|rfl;exact sE g x;exact n4
 have gbk:¬(Blocks es bk∨bk=hb):=fun x=>by rcases x with x|x;exact nbk x;exact n1 x.symm
 have ghc:¬(Blocks es hc∨hc=hb):=fun x=>by rcases x with x|x;exact m2 x;exact nbc x.symm
 have HGP:=fun w1 w2 w3 (f1:Hd base 136 Ax w w1 es es.length) (f2:Ji base 58 11 mkPL w1 w2 ps ps.length) (g1:GrowI base 136 Ax w2 w3 hb es es.length)=>
  Aaa w0 bk hc cap2 base ps w3 ht (tE (tE (tE hE0 f1.1 xE) f2.1 xP) g1.1 gE) xP xc (g1.1.cell (f2.1.cell (f1.1.cell c12 nbk) h.s4) gbk) l2 (((hH2.chg f1.1 m2).chg f2.1 m3).chg g1.1 ghc) (f2.2.1.chg g1.1 gP) h.DP h.s4 m3 (Ne.symm m1)
   (Nat.lt_of_lt_of_le hc4 (nT (nT f1.1.size f2.1.size) g1.1.size)) (nT hbs (nT (nT f1.1.size f2.1.size) g1.1.size)) h.np
 have qE:∀ g,(Blocks ps g∨g=hc)→w0.heap.size≤g:=fun g x=>by rcases x with x|rfl;exact xP g x;exact xc
 have qbk:¬(Blocks ps bk∨bk=hc):=fun x=>by rcases x with x|x;exact h.s4 x;exact m1 x.symm
 have qL:∀ g,(Blocks ps g∨g=hc)→g<w.heap.size∧g≠hb∧¬Blocks es g:=fun g x=>by
  rcases x with x|rfl
  ·exact ⟨(h.ltP g x).2,fun e=>n4 (e ▸ x),sP g x⟩
  ·exact ⟨hc4,Ne.symm nbc,m2⟩
 have HK:=fun w1 w2 w3 w4 (f1:Hd base 136 Ax w w1 es es.length) (f2:Ji base 58 11 mkPL w1 w2 ps ps.length) (g1:GrowI base 136 Ax w2 w3 hb es es.length) (g2:GrowIW base 58 11 mkPL w3 w4 hc ps ps.length)=>
  Qe bk hb cap base es w2 w4 (g2.1.cell (g1.1.cell (f2.1.cell (f1.1.cell c1 nbk) h.s4) gbk) qbk) l1 (g1.look.chg g2.1 fun g x=>⟨Nat.lt_of_lt_of_le (qL g x).1 (nT f1.1.size f2.1.size),(qL g x).2⟩) (fun i hi=>⟨(h.ne i hi).1,by have:=(h.ne i hi).2;omega⟩)
 have HKP:=fun w1 w2 w3 w4 w5 (f1:Hd base 136 Ax w w1 es es.length) (f2:Ji base 58 11 mkPL w1 w2 ps ps.length) (g1:GrowI base 136 Ax w2 w3 hb es es.length) (g2:GrowIW base 58 11 mkPL w3 w4 hc ps ps.length) (e5:Ext w4 w5)=>
  Zm w3 bk hc cap2 base ps w5 (Cx ht ((tE (tE (tE (tE hE0 f1.1 xE) f2.1 xP) g1.1 gE) g2.1 qE).trans e5)) (e5.cell (g2.1.cell (g1.1.cell (f2.1.cell (f1.1.cell c12 nbk) h.s4) gbk) qbk)) l2 (g2.look.ext e5) h.np
 have HE:∀ w1 w2 w3 w4 w6,Hd base 136 Ax w w1 es es.length→Ji base 58 11 mkPL w1 w2 ps ps.length→GrowI base 136 Ax w2 w3 hb es es.length→GrowIW base 58 11 mkPL w3 w4 hc ps ps.length→Ext w4 w6→Chg w w6 (BkP bk es ps w):=by
  intro w1 w2 w3 w4 w6 f1 f2 g1 g2 e;refine ((((f1.1.mono fun g _ x=>?_).trans (f2.1.mono fun g _ x=>?_)).trans (g1.1.mono fun g _ x=>?_)).trans (g2.1.mono fun g _ x=>?_)).trans (Chg.of_ext e _)
  ·exact .inr (.inr (.inr (.inl x)))
  ·exact .inr (.inr (.inr (.inr x)))
  ·rcases x with x|rfl
   ·exact .inr (.inr (.inr (.inl x)))
   ·exact .inr (.inl ob)
  ·rcases x with x|rfl
   ·exact .inr (.inr (.inr (.inr x)))
   ·exact .inr (.inr (.inl oc))
 replace HF:=mK HF;replace HFP:=mK HFP;replace HG:=mK HG;replace HGP:=mK HGP;replace HK:=mK HK;replace HKP:=mK HKP;replace HE:=mK HE;replace nbk:=mK nbk;replace gbk:=mK gbk;replace qbk:=mK qbk;have s4:=mK h.s4;replace Z:=mK Z;clear hH hH2 o1 o12 e1 e2 c1 c12 ob oc n1 n2 n3 n4 m1 m2 m3 nbc hbs xE xP xb xc sP sE tE gE gP ghc qE qL ht hE0 hes hps hlo h;go_enter Tryz.func11,Tryz.ntmps11
 go_wp2_with (first
  | (go_at_call 35;refine HF.out.mono ?_;rintro e w1 ⟨rfl,f1⟩;(replace Z:Hid (∀ i,(i≠0∧i≠1∧i≠12)→i≤16→w1.cell? ⟨bk,i,none⟩=some (.slice none 0 0)):=mK (fun i a b=>f1.1.cell (Z.out i a b) nbk.out));replace f1:=mK f1)
  | (go_at_call 46;refine (HFP.out _ f1.out).mono ?_;rintro e w2 ⟨rfl,f2⟩;(replace Z:Hid (∀ i,(i≠0∧i≠1∧i≠12)→i≤16→w2.cell? ⟨bk,i,none⟩=some (.slice none 0 0)):=mK (fun i a b=>f2.1.cell (Z.out i a b) s4.out));replace f2:=mK f2)
  | (go_at_call 51;refine (HG.out _ _ f1.out f2.out).mono ?_;rintro e w3 ⟨rfl,g1⟩;(replace Z:Hid (∀ i,(i≠0∧i≠1∧i≠12)→i≤16→w3.cell? ⟨bk,i,none⟩=some (.slice none 0 0)):=mK (fun i a b=>g1.1.cell (Z.out i a b) gbk.out));replace g1:=mK g1)
  | (go_at_call 62;refine (HGP.out _ _ _ f1.out f2.out g1.out).mono ?_;rintro e w4 ⟨rfl,g2⟩;(replace Z:Hid (∀ i,(i≠0∧i≠1∧i≠12)→i≤16→w4.cell? ⟨bk,i,none⟩=some (.slice none 0 0)):=mK (fun i a b=>g2.1.cell (Z.out i a b) qbk.out));replace g2:=mK g2)
  | (go_at_call 67;refine (HK.out _ _ _ _ f1.out f2.out g1.out g2.out).mono ?_;rintro e w5 ⟨rfl,hx5⟩;(replace Z:Hid (∀ i,(i≠0∧i≠1∧i≠12)→i≤16→w5.cell? ⟨bk,i,none⟩=some (.slice none 0 0)):=mK (fun i a b=>hx5.cell (Z.out i a b)));replace hx5:=mK hx5)
  | (go_at_call 78;refine (HKP.out _ _ _ _ _ f1.out f2.out g1.out g2.out hx5.out).mono ?_;rintro e w6 ⟨rfl,hx6⟩;(replace Z:Hid (∀ i,(i≠0∧i≠1∧i≠12)→i≤16→w6.cell? ⟨bk,i,none⟩=some (.slice none 0 0)):=mK (fun i a b=>hx6.cell (Z.out i a b)));replace hx6:=mK hx6)
  | (go_at_call 36;refine (Hq bk _ (Z.out _ (by decide) (by decide))).mono ?_;rintro e w' ⟨rfl,rfl⟩)
  | (go_at_call 37;refine (If bk _ (Z.out _ (by decide) (by decide))).mono ?_;rintro e w' ⟨rfl,rfl⟩)
  | (go_at_call 38;refine (Gq bk _ (Z.out _ (by decide) (by decide))).mono ?_;rintro e w' ⟨rfl,rfl⟩)
  | (go_at_call 39;refine (Kg bk _ (Z.out _ (by decide) (by decide))).mono ?_;rintro e w' ⟨rfl,rfl⟩)
  | (go_at_call 40;refine (Ki bk _ (Z.out _ (by decide) (by decide))).mono ?_;rintro e w' ⟨rfl,rfl⟩)
  | (go_at_call 41;refine (Ie bk _ (Z.out _ (by decide) (by decide))).mono ?_;rintro e w' ⟨rfl,rfl⟩)
  | (go_at_call 42;refine (Mx bk _ (Z.out _ (by decide) (by decide))).mono ?_;rintro e w' ⟨rfl,rfl⟩)
  | (go_at_call 43;refine (Gp bk _ (Z.out _ (by decide) (by decide))).mono ?_;rintro e w' ⟨rfl,rfl⟩)
  | (go_at_call 44;refine (Kk bk _ (Z.out _ (by decide) (by decide))).mono ?_;rintro e w' ⟨rfl,rfl⟩)
  | (go_at_call 45;refine (Kj bk _ (Z.out _ (by decide) (by decide))).mono ?_;rintro e w' ⟨rfl,rfl⟩)
  | (go_at_call 47;refine (My bk _ (Z.out _ (by decide) (by decide))).mono ?_;rintro e w' ⟨rfl,rfl⟩)
  | (go_at_call 48;refine (Kh bk _ (Z.out _ (by decide) (by decide))).mono ?_;rintro e w' ⟨rfl,rfl⟩)
  | (go_at_call 49;refine (Mz bk _ (Z.out _ (by decide) (by decide))).mono ?_;rintro e w' ⟨rfl,rfl⟩)
  | (go_at_call 50;refine (Id bk _ (Z.out _ (by decide) (by decide))).mono ?_;rintro e w' ⟨rfl,rfl⟩)
  | (go_at_call 52;refine (Hm bk _ (Z.out _ (by decide) (by decide))).mono ?_;rintro e w' ⟨rfl,rfl⟩)
  | (go_at_call 53;refine (Ic bk _ (Z.out _ (by decide) (by decide))).mono ?_;rintro e w' ⟨rfl,rfl⟩)
  | (go_at_call 54;refine (Gm bk _ (Z.out _ (by decide) (by decide))).mono ?_;rintro e w' ⟨rfl,rfl⟩)
  | (go_at_call 55;refine (Jx bk _ (Z.out _ (by decide) (by decide))).mono ?_;rintro e w' ⟨rfl,rfl⟩)
  | (go_at_call 56;refine (Jz bk _ (Z.out _ (by decide) (by decide))).mono ?_;rintro e w' ⟨rfl,rfl⟩)
  | (go_at_call 57;refine (Ib bk _ (Z.out _ (by decide) (by decide))).mono ?_;rintro e w' ⟨rfl,rfl⟩)
  | (go_at_call 58;refine (Mt bk _ (Z.out _ (by decide) (by decide))).mono ?_;rintro e w' ⟨rfl,rfl⟩)
  | (go_at_call 59;refine (Gl bk _ (Z.out _ (by decide) (by decide))).mono ?_;rintro e w' ⟨rfl,rfl⟩)
  | (go_at_call 60;refine (Kb bk _ (Z.out _ (by decide) (by decide))).mono ?_;rintro e w' ⟨rfl,rfl⟩)
  | (go_at_call 61;refine (Ka bk _ (Z.out _ (by decide) (by decide))).mono ?_;rintro e w' ⟨rfl,rfl⟩)
  | (go_at_call 63;refine (Mu bk _ (Z.out _ (by decide) (by decide))).mono ?_;rintro e w' ⟨rfl,rfl⟩)
  | (go_at_call 64;refine (Jy bk _ (Z.out _ (by decide) (by decide))).mono ?_;rintro e w' ⟨rfl,rfl⟩)
  | (go_at_call 65;refine (Mv bk _ (Z.out _ (by decide) (by decide))).mono ?_;rintro e w' ⟨rfl,rfl⟩)
  | (go_at_call 66;refine (Ia bk _ (Z.out _ (by decide) (by decide))).mono ?_;rintro e w' ⟨rfl,rfl⟩)
  | (go_at_call 68;refine (Hl bk _ (Z.out _ (by decide) (by decide))).mono ?_;rintro e w' ⟨rfl,rfl⟩)
  | (go_at_call 69;refine (Hz bk _ (Z.out _ (by decide) (by decide))).mono ?_;rintro e w' ⟨rfl,rfl⟩)
  | (go_at_call 70;refine (Gk bk _ (Z.out _ (by decide) (by decide))).mono ?_;rintro e w' ⟨rfl,rfl⟩)
  | (go_at_call 71;refine (Jr bk _ (Z.out _ (by decide) (by decide))).mono ?_;rintro e w' ⟨rfl,rfl⟩)
  | (go_at_call 72;refine (Jt bk _ (Z.out _ (by decide) (by decide))).mono ?_;rintro e w' ⟨rfl,rfl⟩)
  | (go_at_call 73;refine (Hy bk _ (Z.out _ (by decide) (by decide))).mono ?_;rintro e w' ⟨rfl,rfl⟩)
  | (go_at_call 74;refine (Mn bk _ (Z.out _ (by decide) (by decide))).mono ?_;rintro e w' ⟨rfl,rfl⟩)
  | (go_at_call 75;refine (Gj bk _ (Z.out _ (by decide) (by decide))).mono ?_;rintro e w' ⟨rfl,rfl⟩)
  | (go_at_call 76;refine (Jv bk _ (Z.out _ (by decide) (by decide))).mono ?_;rintro e w' ⟨rfl,rfl⟩)
  | (go_at_call 77;refine (Ju bk _ (Z.out _ (by decide) (by decide))).mono ?_;rintro e w' ⟨rfl,rfl⟩)
  | (go_at_call 79;refine (Mo bk _ (Z.out _ (by decide) (by decide))).mono ?_;rintro e w' ⟨rfl,rfl⟩)
  | (go_at_call 80;refine (Js bk _ (Z.out _ (by decide) (by decide))).mono ?_;rintro e w' ⟨rfl,rfl⟩)
  | (go_at_call 81;refine (Mp bk _ (Z.out _ (by decide) (by decide))).mono ?_;rintro e w' ⟨rfl,rfl⟩)
  | (go_at_call 82;refine (Hx bk _ (Z.out _ (by decide) (by decide))).mono ?_;rintro e w' ⟨rfl,rfl⟩))
 go_ret;exact ⟨rfl,HE.out _ _ _ _ _ f1.out f2.out g1.out g2.out (hx5.out.trans hx6.out)⟩
theorem Rc {g:Nat}:¬Blocks [] g:=fun ⟨i,hi,_⟩=>absurd hi (Nat.not_lt_zero i)
theorem BkI.start {w:World}{bk base T:Nat}(h:w.heap[bk]? = some (.cells Bt T))(hb:base≤bk):BkI base bk [] [] w:=by
 have hc:∀ i,i≠0→i≤16→w.cell? ⟨bk,i,none⟩=some (.slice none 0 0):=by
  intro i h0 h1;rw [cell_of_row _ _ i Bt T (0,0) h];have:i=1∨i=2∨i=3∨i=4∨i=5∨i=6∨i=7∨i=8∨i=9∨i=10∨i=11∨i=12∨i=13∨i=14∨i=15∨i=16:=by omega
  rcases this with rfl|rfl|rfl|rfl|rfl|rfl|rfl|rfl|rfl|rfl|rfl|rfl|rfl|rfl|rfl|rfl<;>rfl
 have no:∀ j g,j≠0→j≤16→¬OwnB bk j w g:=fun j g h0 h1 x=>by
  have:=x.of (hc j h0 h1);cases this
 refine ⟨(Array.getElem?_eq_some_iff.1 h).1,hb,?_,⟨none,0,hc 1 (by decide) (by decide),World.ownsRow_nil _ _ _ _⟩,⟨none,0,hc 12 (by decide) (by decide),World.ownsRow_nil _ _ _ _⟩,fun i=>frozen_of_row _ _ i Bt T h,fun i h0 _ _ h2=>hc i h0 h2,
  fun i hi=>absurd hi (Nat.not_lt_zero i),fun i hi=>absurd hi (Nat.not_lt_zero i),fun i j hi=>absurd hi (Nat.not_lt_zero i),fun i j hi=>absurd hi (Nat.not_lt_zero i),fun g x=>absurd x (no 1 g (by decide) (by decide)),fun g x=>absurd x (no 12 g (by decide) (by decide)),
  fun g x=>absurd x Rc,Rc,fun i hi=>absurd hi (Nat.not_lt_zero i),fun i hi=>absurd hi (Nat.not_lt_zero i)⟩
 rw [cell_of_row _ _ 0 Bt T (0,0) h];rfl
structure Wait (base bk:Nat) (es ps:List Ent) (w:World) (ns:List Ent):Prop where
 L:Lists base 136 w ns
 D:Distinct ns
 out:∀ g,Blocks ns g→¬BkP bk es ps w g
 le:∀ i (h:i<ns.length),ns[i].n≤1000000∧ns[i].len≤1000000
structure Bst (base bk:Nat) (es ps ns:List Ent) (w:World):Prop where
 I:BkI base bk es ps w
 W:Wait base bk es ps w ns
theorem Bst.ext {base bk:Nat}{es ps ns:List Ent}{w w':World}(h:Bst base bk es ps ns w)(e:Ext w w'):Bst base bk es ps ns w':=by
 obtain ⟨h1,h2⟩:=h.I.chg (Chg.of_ext e (fun _=>False)) (fun _ _ x=>x);exact ⟨h1,⟨h.W.L.chg (Chg.of_ext e (fun _=>False)) (fun _ x=>x.elim),h.W.D,fun g hg x=>h.W.out g hg ((h2 g).1 x),h.W.le⟩⟩
theorem blocks_cons {e:Ent}{es:List Ent}{g:Nat}:Blocks (e::es) g↔e.l.ownBlock=some g∨Blocks es g:=by
 constructor
 ·rintro ⟨i,hi,h⟩
  cases i with
  | zero=>exact .inl h
  | succ i=>exact .inr ⟨i,by simpa using hi,by simpa using h⟩
 ·rintro (h|⟨i,hi,h⟩)
  ·exact ⟨0,by simp,h⟩
  ·exact ⟨i+1,by simpa using hi,by simpa using h⟩
theorem Wait.next {base bk:Nat}{es ps ns:List Ent}{e:Ent}{w w':World}(h:Wait base bk es ps w (e::ns))(t:BkT bk w w'):Wait base bk (es++[e]) ps w' ns:=by
 refine ⟨fun i hi=>?_,fun i j hi hj hne=>?_,fun g hg x=>?_,fun i hi=>?_⟩
 ·obtain ⟨xs,hx⟩:=h.L (i+1) (by simpa using hi)
  refine ⟨xs,t.chg.row (by simpa using hx) fun g hg hS=>?_⟩;refine h.out g (blocks_cons.2 (.inr ⟨i,hi,hg⟩)) ?_;rcases hS with x|x|x
  ·exact .inl x
  ·exact .inr (.inl x)
  ·exact .inr (.inr (.inl x))
 ·have:=h.D (i+1) (j+1) (by simpa using hi) (by simpa using hj) (by omega)
  simpa using this
 ·have hb:=blocks_cons (e:=e) (es:=ns) (g:=g) |>.2 (.inr hg)
  have ho:=h.out g hb;obtain ⟨i,hi,hgi⟩:=hg;obtain ⟨xs,hx⟩:=h.L (i+1) (by simpa using hi);have hlt:g<w.heap.size:=(hx.lt g (by simpa using hgi)).2;rcases x with x|x|x|x|x
  ·exact ho (.inl x)
  ·exact ho (.inr (.inl (t.o1 g hlt x)))
  ·exact ho (.inr (.inr (.inl (t.o2 g hlt x))))
  ·rcases blocks_snoc.1 x with x|x
   ·exact ho (.inr (.inr (.inr (.inl x))))
   ·have:=h.D 0 (i+1) (by simp) (by simpa using hi) (by omega)
    simp only [List.getElem_cons_zero,List.getElem_cons_succ] at this;rw [x,hgi] at this;rcases this with y|y
    ·cases y
    ·exact y rfl
  ·exact ho (.inr (.inr (.inr (.inr x))))
 ·exact h.le (i+1) (by simpa using hi)
def Saf2 (bk:Nat)(w:World)(k:Nat):Prop:=k≠bk∧¬OwnB bk 1 w k∧¬OwnB bk 12 w k
theorem BkT.blk {bk k:Nat}{w w':World}{o:Obj}(t:BkT bk w w')(hk:w.heap[k]? = some o)(hs:Saf2 bk w k):w'.heap[k]? = some o:=by
 refine (t.chg.block k (Array.getElem?_eq_some_iff.1 hk).1 ?_).trans hk;rintro (x|x|x)
 ·exact hs.1 x
 ·exact hs.2.1 x
 ·exact hs.2.2 x
theorem BkI.saf {base bk k:Nat}{es ps:List Ent}{w W:World}(h:BkI base bk es ps w)(e:Ext w W)(hk:w.heap.size≤k):Saf2 bk W k:=by
 have hc:∀ i,W.cell? ⟨bk,i,none⟩=w.cell? ⟨bk,i,none⟩:=fun i=>World.cell?_of_block (e.block bk h.lt);have:=h.lt;refine ⟨by omega,fun x=>?_,fun x=>?_⟩
 ·have:=(h.lt1 k ((OwnB.same (hc 1)).1 x)).2
  omega
 ·have:=(h.lt12 k ((OwnB.same (hc 12)).1 x)).2
  omega
theorem Aia (base bk:Nat)(la:Option Addr)(len lc N:Nat)(es ps ns:List Ent)(w:World)(h:Bst base bk es ps (Ent.mk (.slice la len lc) (N+1) len::ns) w)(hN:N=es.length+ps.length) :
  Calls Tryz.prog 242 #[.pointer (some ⟨bk,0,none⟩),.slice la len lc] w fun e w'=>e=.returned (.tuple #[])∧Bst base bk (es++[Ent.mk (.slice la len lc) (N+1) len]) ps ns w'∧BkT bk w w':=by
 obtain ⟨sa,sc,h1,h2⟩:=h.I.l;have hl:=h.W.le 0 (by simp);simp only [List.getElem_cons_zero] at hl;obtain ⟨xs,hx⟩:=h.W.L 0 (by simp);simp only [List.getElem_cons_zero] at hx;refine (Qi bk base sa sc la len lc es N w (by omega) (by omega) (by rw [hN];exact h.I.n) h1 h.I.f h2 (fun e=>(h.I.s1 bk ⟨_,_,_,h1,e.symm⟩).1 rfl) (Nat.le_of_lt (Nat.lt_of_le_of_lt h.I.bs h.I.lt))).mono fun e w' k=>?_;obtain ⟨r1,r2⟩:=h.I.limb (by rw [hN]) h1 k.2 ⟨xs,hx⟩ (fun g hg=>h.W.out g (blocks_cons.2 (.inl hg))) hl;exact ⟨k.1,⟨r1,h.W.next r2⟩,r2⟩
theorem Agl (base bk:Nat)(b:Bool)(la:Option Addr)(len lc N:Nat)(es ps ns:List Ent)(w:World)(h:Bst base bk es ps (Ent.mk (.slice la len lc) (N+1) len::ns) w)(hN:N=es.length+ps.length) :
  Calls Tryz.prog 191 #[.pointer (some ⟨bk,0,none⟩),.agg #[.bool b,.slice la len lc]] w fun e w'=>e=.returned (.tuple #[])∧Bst base bk (es++[Ent.mk (.slice la len lc) (N+1) len]) ps ns w'∧BkT bk w w':=by
 have hlt:=mK h.I.lt;have K:=mK (fun W (e:Ext w W)=>Aia base bk la len lc N es ps ns W (h.ext e) hN);replace h:=mK h;clear hN;go_enter Tryz.func191,Tryz.ntmps191;go_wp2_with (go_at_call 242;refine (K.out _ ((xR _).al _)).mono ?_;rintro e w' ⟨rfl,h1,h2⟩;replace h1:=mK h1;replace h2:=mK ((BkT.of_ext hlt.out ((xR _).al _)).trans h2));go_end0;exact ⟨rfl,h1.out,h2.out⟩
theorem Abw (base bk:Nat)(b1:Bool)(a1:Option Addr)(n1 c1:Nat)(b2:Bool)(a2:Option Addr)(n2 c2 N:Nat)(es ps ns:List Ent)(w:World)(h:Bst base bk es ps (Eb N a1 n1 c1 a2 n2 c2++ns) w)(hN:N=es.length+ps.length) :
  Calls Tryz.prog 121 #[.pointer (some ⟨bk,0,none⟩),.agg #[.bool b1,.slice a1 n1 c1,.bool b2,.slice a2 n2 c2]] w fun e w'=>e=.returned (.tuple #[])∧Bst base bk (es++Eb N a1 n1 c1 a2 n2 c2) ps ns w'∧BkT bk w w':=by
 have hlt:=h.I.lt;have K1:=mK (fun W (e:Ext w W)=>Agl base bk b1 a1 n1 c1 N es ps (Ent.mk (.slice a2 n2 c2) (N+2) n2::ns) W (h.ext e) hN);have K2:=mK (fun W (x:Bst base bk (es++[Ent.mk (.slice a1 n1 c1) (N+1) n1]) ps (Ent.mk (.slice a2 n2 c2) (N+2) n2::ns) W)=>Agl base bk b2 a2 n2 c2 (N+1) _ ps ns W x (by simp;omega));obtain ⟨w1,hw1⟩:=nmE (w.alloc (.cells #[.bool b1,.slice a1 n1 c1,.bool b2,.slice a2 n2 c2] 54));have hE1:=aLe1 hw1;have z1:=aL10 hw1;have sf:=h.I.saf hE1 (nR _);replace hE1:=mK hE1;replace h:=mK h;clear hN;go_enter Tryz.func121,Tryz.ntmps121;go_wp2_with fail;rw [←hw1];clear hw1;go_wp2_with (go_at_call 191;refine (K1.out _ hE1.out).mono ?_;rintro e w2 ⟨rfl,s1,k1⟩;(have z2:=k1.blk z1 sf);(have y2:=Kx z2 2 rfl);(have y3:=Kx z2 3 rfl);replace s1:=mK s1;replace k1:=mK k1;clear z1 z2);go_wp2_with (go_at_call 191;refine (K2.out _ s1.out).mono ?_;rintro e w3 ⟨rfl,s2,k2⟩;replace s2:=mK s2;replace k2:=mK k2);go_end0;exact ⟨rfl,by simpa [Eb] using s2.out,((BkT.of_ext hlt hE1.out).trans k1.out).trans k2.out⟩
theorem Aay (base bk:Nat)(kd:Int)(b1:Bool)(a1:Option Addr)(n1 c1:Nat)(b2:Bool)(a2:Option Addr)(n2 c2:Nat)(b3:Bool)(a3:Option Addr)(n3 c3:Nat)(b4:Bool)(a4:Option Addr)(n4 c4 N:Nat)(es ps ns:List Ent)(w:World)
  (h:Bst base bk es ps (Dz N a1 n1 c1 a2 n2 c2 a3 n3 c3 a4 n4 c4++ns) w) (hN:N=es.length+ps.length) :
  Calls Tryz.prog 34 #[.pointer (some ⟨bk,0,none⟩),.agg #[.int .u8 kd,.bool b1,.slice a1 n1 c1,.bool b2,.slice a2 n2 c2,.bool b3,.slice a3 n3 c3,.bool b4,.slice a4 n4 c4]] w fun e w'=>e=.returned (.tuple #[])∧Bst base bk (es++Dz N a1 n1 c1 a2 n2 c2 a3 n3 c3 a4 n4 c4) ps ns w'∧BkT bk w w':=by
 have hlt:=h.I.lt;have K1:=mK (fun W (e:Ext w W)=>Abw base bk b1 a1 n1 c1 b2 a2 n2 c2 N es ps (Eb (N+2) a3 n3 c3 a4 n4 c4++ns) W (by have:=h.ext e;unfold Dz at this;rwa [List.append_assoc] at this) hN);have K2:=mK (fun W (x:Bst base bk (es++Eb N a1 n1 c1 a2 n2 c2) ps (Eb (N+2) a3 n3 c3 a4 n4 c4++ns) W)=>Abw base bk b3 a3 n3 c3 b4 a4 n4 c4 (N+2) _ ps ns W x (by simp [Eb];omega));obtain ⟨w1,hw1⟩:=nmE (w.alloc (.cells #[.int .u8 kd,.bool b1,.slice a1 n1 c1,.bool b2,.slice a2 n2 c2,.bool b3,.slice a3 n3 c3,.bool b4,.slice a4 n4 c4] 56));have hE1:=aLe1 hw1;have z1:=mK (aL10 hw1);have sf:=mK (h.I.saf hE1 (nR _));replace hE1:=mK hE1;replace hw1:=mK hw1;replace hlt:=mK hlt;obtain ⟨lim,hlim⟩:=nmE (es++Dz N a1 n1 c1 a2 n2 c2 a3 n3 c3 a4 n4 c4);rw [←hlim];replace hlim:=mK hlim;clear h hN;have tok:True:=trivial;go_enter Tryz.func34,Tryz.ntmps34
 go_wp2_with (first
  | (rw [←hw1.out];refine Ab rfl 54 (.tmp 5) rfl w.heap.size 1 rfl 56 #[.int .u8 kd,.bool b1,.slice a1 n1 c1,.bool b2,.slice a2 n2 c2,.bool b3,.slice a3 n3 c3,.bool b4,.slice a4 n4 c4] #[.bool b1,.slice a1 n1 c1,.bool b2,.slice a2 n2 c2] (0,0) _ z1.out rfl Tryz.underlying54 rfl (by kernel_rfl) ?_)
  | (go_at_call 121;have _t:=tok;clear tok;refine (K1.out _ hE1.out).mono ?_;rintro e w2 ⟨rfl,s1,k1⟩;(have z2:=mK (k1.blk z1.out sf.out));replace s1:=mK s1;replace k1:=mK k1)
  | (refine Ab rfl 54 (.tmp 9) rfl w.heap.size 5 rfl 56 #[.int .u8 kd,.bool b1,.slice a1 n1 c1,.bool b2,.slice a2 n2 c2,.bool b3,.slice a3 n3 c3,.bool b4,.slice a4 n4 c4] #[.bool b3,.slice a3 n3 c3,.bool b4,.slice a4 n4 c4] (0,0) _ z2.out rfl Tryz.underlying54 rfl (by kernel_rfl) ?_)
  | (go_at_call 121;refine (K2.out _ s1.out).mono ?_;rintro e w3 ⟨rfl,s2,k2⟩;replace s2:=mK s2;replace k2:=mK k2))
 go_end0;refine ⟨rfl,?_,((BkT.of_ext hlt.out hE1.out).trans k1.out).trans k2.out⟩;rw [hlim.out];have:=s2.out;rw [List.append_assoc] at this;exact this
theorem Abu (base bk:Nat)(nm:ByteArray)(co:Int)(kd:Int)(b1:Bool)(a1:Option Addr)(n1 c1:Nat)(b2:Bool)(a2:Option Addr)(n2 c2:Nat)(b3:Bool)(a3:Option Addr)(n3 c3:Nat)(b4:Bool)(a4:Option Addr)(n4 c4 N:Nat)(es ps ns:List Ent)(w:World)
  (h:Bst base bk es ps (Dz N a1 n1 c1 a2 n2 c2 a3 n3 c3 a4 n4 c4++ns) w) (hN:N=es.length+ps.length) :
  Calls Tryz.prog 10 #[.pointer (some ⟨bk,0,none⟩),.agg #[.string nm,.int .u8 kd,.bool b1,.slice a1 n1 c1,.bool b2,.slice a2 n2 c2,.bool b3,.slice a3 n3 c3,.bool b4,.slice a4 n4 c4,.int .i64 co]] w fun e w'=>e=.returned (.tuple #[])∧Bst base bk (es++Dz N a1 n1 c1 a2 n2 c2 a3 n3 c3 a4 n4 c4) ps ns w'∧BkT bk w w':=by
 have hlt:=mK h.I.lt;have K1:=mK (fun W (e:Ext w W)=>Aay base bk kd b1 a1 n1 c1 b2 a2 n2 c2 b3 a3 n3 c3 b4 a4 n4 c4 N es ps ns W (h.ext e) hN);obtain ⟨w1,hw1⟩:=nmE (w.alloc (.cells #[.string nm,.int .u8 kd,.bool b1,.slice a1 n1 c1,.bool b2,.slice a2 n2 c2,.bool b3,.slice a3 n3 c3,.bool b4,.slice a4 n4 c4,.int .i64 co] 58));have hE1:=mK (aLe1 hw1);have z1:=mK (aL10 hw1);replace hw1:=mK hw1;generalize es++Dz N a1 n1 c1 a2 n2 c2 a3 n3 c3 a4 n4 c4=lim at *;clear h hN;go_enter Tryz.func10,Tryz.ntmps10
 go_wp2_with (first
  | (rw [←hw1.out];refine Ab rfl 56 (.tmp 5) rfl w.heap.size 1 rfl 58 #[.string nm,.int .u8 kd,.bool b1,.slice a1 n1 c1,.bool b2,.slice a2 n2 c2,.bool b3,.slice a3 n3 c3,.bool b4,.slice a4 n4 c4,.int .i64 co] #[.int .u8 kd,.bool b1,.slice a1 n1 c1,.bool b2,.slice a2 n2 c2,.bool b3,.slice a3 n3 c3,.bool b4,.slice a4 n4 c4] (0,0) _ z1.out rfl Tryz.underlying56 rfl (by kernel_rfl) ?_)
  | (go_at_call 34;refine (K1.out _ hE1.out).mono ?_;rintro e w2 ⟨rfl,s1,k1⟩;replace s1:=mK s1;replace k1:=mK k1))
 go_end0;exact ⟨rfl,s1.out,(BkT.of_ext hlt.out hE1.out).trans k1.out⟩
end Go.Proofs.YteogdoglboddhaaGreatDoor
