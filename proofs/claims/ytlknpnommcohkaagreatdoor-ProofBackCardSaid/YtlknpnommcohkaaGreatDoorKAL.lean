/-
  law01: what is alike, of lists that tell the same. law01: SameNumbers, SameRay, SameTask, SameChoice. law01: SameTask, SameChoice, SameProof. proof's reader: a word is taken. exact.Read: the number of a text, or none. catalog: number, read of two lines, Parse of one text (that which law25's alive asks). ratio.Whole, frac.answered (what is handed out lies in memory of its own), ratio.Read, frac.Parse.
-/
import Derived.Test.YtlknpnommcohkaaGreatDoorKAK
import Derived.Test.YtlknpnommcohkaaGreatDoorKAI
import Derived.Test.YtlknpnommcohkaaGreatDoorKAG
import Derived.Test.YtlknpnommcohkaaGreatDoorKAF
import Derived.Test.YtlknpnommcohkaaGreatDoorKAA
import Derived.Test.YtlknpnommcohkaaGreatDoorKAD
import Derived.Test.YtlknpnommcohkaaGreatDoorKAC
import Derived.Test.YtlknpnommcohkaaGreatDoorKAE
import Derived.LoopN
import Derived.Shelf.Strings.SlTrimAscii
import Derived.Lib.SmallJoins
import Derived.Test.YtlknpnommcohkaaGreatDoorKAB
import Derived.Laws.AppendOwnNone
import Derived.Deep.LoopGhost
set_option maxHeartbeats 6400000
namespace Go.Proofs.YtlknpnommcohkaaGreatDoor
set_option maxRecDepth 100000
open Go Go.RowKit Go.Proofs
theorem Ko (v v':Value)(x:Rat)(w:World)(h:FracR w v x)(h':FracR w v' x)(hn:nf x≤2048) :
  Calls Tryz.prog 47 #[v,v'] w fun e w'=>e=.returned (.bool true)∧Ext w w':=by
 obtain ⟨b1,a1,n1,c1,b2,a2,n2,c2,rfl⟩:=h.shape;obtain ⟨b1',a1',n1',c1',b2',a2',n2',c2',rfl⟩:=h'.shape;obtain ⟨rfl,rfl,rfl,rfl,r1⟩:=h.rawL hn;obtain ⟨rfl,rfl,rfl,rfl,r1'⟩:=h'.rawL hn;refine (Gg _ a1 _ c1 _ a2 _ c2 _ a1' _ c1' _ a2' _ c2' w r1 r1').mono ?_;rintro e w' ⟨rfl,hx⟩;exact ⟨by simp [Jk],hx⟩
theorem Qe {f:FV}(h:zFV f=true):f.b1=false∧f.b2=false∧f.n1=0∧f.n2=0:=by
 unfold zFV at h;simp only [Bool.and_eq_true,Bool.not_eq_true',decide_eq_true_eq] at h;obtain ⟨h1,h2,h3⟩:=h;exact ⟨h1,h2,by omega,by omega⟩
def SmF (w:World)(f g:FV):Prop:=(∃ x,FracR w (.agg #[.bool f.b1,.slice f.a1 f.n1 f.c1,.bool f.b2,.slice f.a2 f.n2 f.c2]) x∧FracR w (.agg #[.bool g.b1,.slice g.a1 g.n1 g.c1,.bool g.b2,.slice g.a2 g.n2 g.c2]) x∧nf x≤2048)∨(zFV f=true∧zFV g=true)
theorem SmF.ext {w w':World}{f g:FV}(h:SmF w f g)(e:Ext w w'):SmF w' f g:=by
 rcases h with ⟨x,h1,h2,h3⟩|h
 ·exact .inl ⟨x,h1.ext e,h2.ext e,h3⟩
 ·exact .inr h
theorem rawZ (w:World)(a1:Option Addr)(c1:Nat)(a2:Option Addr)(c2:Nat):RawL w false a1 [] c1 false a2 [] c2:=by
 have h:∀ (a:Option Addr) (c:Nat),AnyR w (.agg #[.bool false,.slice a 0 c]) false []:=fun a c=>⟨a,c,rfl,Lb,Nat.zero_le _,0,0,fun h=>absurd rfl h,fun j hj=>absurd hj (by simp [limV])⟩
 exact ⟨Nat.zero_le _,Nat.zero_le _,h a1 c1,h a2 c2⟩
theorem Iw (f g:FV)(w:World)(h:SmF w f g) :
  Calls Tryz.prog 47 #[.agg #[.bool f.b1,.slice f.a1 f.n1 f.c1,.bool f.b2,.slice f.a2 f.n2 f.c2],.agg #[.bool g.b1,.slice g.a1 g.n1 g.c1,.bool g.b2,.slice g.a2 g.n2 g.c2]] w fun e w'=>e=.returned (.bool true)∧Ext w w':=by
 rcases h with ⟨x,h1,h2,h3⟩|⟨h1,h2⟩
 ·exact Ko _ _ x w h1 h2 h3
 ·obtain ⟨e1,e2,e3,e4⟩:=Qe h1
  obtain ⟨k1,k2,k3,k4⟩:=Qe h2;rw [e1,e2,e3,e4,k1,k2,k3,k4];refine (Gg false f.a1 [] f.c1 false f.a2 [] f.c2 false g.a1 [] g.c1 false g.a2 [] g.c2 w (rawZ _ _ _ _ _) (rawZ _ _ _ _ _)).mono ?_;rintro e w' ⟨rfl,hx⟩;exact ⟨by simp [Jk],hx⟩
theorem Ox (v v':Value)(e:EL)(w:World)(h:EltR w v e)(h':EltR w v' e)(hn:nf e.p≤2048∧nf e.q≤2048) :
  Calls Tryz.prog 99 #[v,v'] w fun e w'=>e=.returned (.bool true)∧Ext w w':=by
 obtain ⟨p,q,rfl,h1,h2⟩:=h;obtain ⟨p',q',rfl,h1',h2'⟩:=h';obtain ⟨b1,a1,n1,c1,b2,a2,n2,c2⟩:=p;obtain ⟨b3,a3,n3,c3,b4,a4,n4,c4⟩:=q;obtain ⟨b1',a1',n1',c1',b2',a2',n2',c2'⟩:=p';obtain ⟨b3',a3',n3',c3',b4',a4',n4',c4'⟩:=q';obtain ⟨rfl,rfl,rfl,rfl,r1⟩:=h1.rawL hn.1;obtain ⟨rfl,rfl,rfl,rfl,r2⟩:=h2.rawL hn.2;obtain ⟨rfl,rfl,rfl,rfl,r1'⟩:=h1'.rawL hn.1;obtain ⟨rfl,rfl,rfl,rfl,r2'⟩:=h2'.rawL hn.2;refine (Ic e.kd e.kd _ a1 _ c1 _ a2 _ c2 _ a3 _ c3 _ a4 _ c4 _ a1' _ c1' _ a2' _ c2' _ a3' _ c3' _ a4' _ c4' w r1 r2 r1' r2').mono ?_;rintro e w' ⟨rfl,hx⟩;exact ⟨by simp [Jk],hx⟩
theorem Ow (v v':Value)(d:PD)(w:World)(h:PrtR w v d)(h':PrtR w v' d)(hn:nf d.p≤2048∧nf d.q≤2048) :
  Calls Tryz.prog 146 #[v,v'] w fun e w'=>e=.returned (.bool true)∧Ext w w':=by
 obtain ⟨p,q,rfl,h1,h2⟩:=h;obtain ⟨p',q',rfl,h1',h2'⟩:=h';exact Mv _ _ d w ⟨_,_,_,_,_,_,_,_,_,_,_,_,_,_,_,_,rfl,h1,h2⟩ ⟨_,_,_,_,_,_,_,_,_,_,_,_,_,_,_,_,rfl,h1',h2'⟩ hn.1 hn.2
theorem Ae7 (w:World)(v:Value)(e:EL)(h:EltR w v e):∃ A:Array Value,v=.agg A∧A.size=9:=by
 obtain ⟨p,q,rfl,-⟩:=h;exact ⟨_,rfl,rfl⟩
theorem Ae6 (w:World)(v:Value)(e:Rat)(h:FracR w v e):∃ A:Array Value,v=.agg A∧A.size=4:=by
 obtain ⟨b1,a1,n1,c1,b2,a2,n2,c2,rfl⟩:=h.shape;exact ⟨_,rfl,rfl⟩
theorem Ae5 (w:World)(v:Value)(e:PD)(h:PrtR w v e):∃ A:Array Value,v=.agg A∧A.size=11:=by
 obtain ⟨p,q,rfl,-⟩:=h;exact ⟨_,rfl,rfl⟩
theorem Xp (s s':Value)(os os':List (EL×Value))(w:World)(h:Ls 9 EltR w s os)(h':Ls 9 EltR w s' os')(he:os.map (·.1)=os'.map (·.1))(hn:∀ x∈os,nf x.1.p≤2048∧nf x.1.q≤2048)(hl:os.length≤1099511627776) :
  Calls Tryz.prog 45 #[s,s'] w fun e w'=>e=.returned (.bool true)∧Ext w w':=by
 have hle:os'.length=os.length:=by have:=congrArg List.length he;simpa using this.symm
 obtain ⟨a,c,e1,hc⟩:=h.slice;obtain ⟨a',c',e1',hc'⟩:=h'.slice;rw [hle] at e1' hc';have H:=mK (fun W (e:Ext w W)=>Ls.ext (w':=W) h (fun _ _ v=>EltR.ext v e) e);have H':=mK (fun W (e:Ext w W)=>Ls.ext (w':=W) h' (fun _ _ v=>EltR.ext v e) e);have he:=mK he;have hn:=mK hn;obtain ⟨n,hnl⟩:=nmE os.length;rw [←hnl] at e1 hc e1' hc' hle hl;replace hle:=mK hle;replace hnl:=mK hnl;subst e1;subst e1';clear h h';go_enter Tryz.func45,Tryz.ntmps45;go_wp2_with fail;obtain ⟨w0,hw0⟩:=nmE w;rw [←hw0] at H H';have st:Hid (∃ k:Nat,k≤n∧Value.int .i64 0=.int .i64 k∧Ext w0 w):=⟨0,Nat.zero_le _,rfl,by rw [hw0];exact xR _⟩
 have hw0:=mK hw0;go_loopw [5] (fun t5 wr=>∃ k:Nat,k≤n∧t5=.int .i64 k∧Ext w0 wr) (fun t5 _=>n-(intOf t5).toNat)
 case atStart=>exact st.out
 case round=>
  clear st;obtain ⟨k,hk,rfl,hEr⟩:=hrel;obtain ⟨w2,rfl⟩:=nmE (wr:World);by_cases hlt:k<n
  ·have hlt':(k:Int)<(n:Int):=by omega
   have hlt1:k<os.length:=by rw [←hnl.out];exact hlt
   have hlt2:k<os'.length:=by rw [hle.out];exact hlt
   obtain ⟨b,o,c1,x1,-,hr,hv⟩:=(H.out w2 hEr).get (by decide) hlt1;obtain ⟨b',o',c1',x1',-,hr',hv'⟩:=(H'.out w2 hEr).get (by decide) hlt2;rw [hle.out] at x1';rw [←hnl.out] at x1;simp only [Value.slice.injEq,true_and] at x1 x1';obtain ⟨rfl,rfl⟩:=x1;obtain ⟨rfl,rfl⟩:=x1'
   have hd:os'[k].1=os[k].1:=by
    have h1:(os'.map (·.1))[k]'(by simpa using hlt2)=(os.map (·.1))[k]'(by simpa using hlt1):=by simp only [he.out]
    simpa using h1
   rw [hd] at hv';have hnk:=hn.out _ (List.getElem_mem hlt1);obtain ⟨A,hA,hAs⟩:=Ae7 _ _ _ hv;obtain ⟨A',hA',hAs'⟩:=Ae7 _ _ _ hv';rw [hA] at hr hv;rw [hA'] at hr' hv';replace hr:w2.rangeAt b (o+k*9) A.toList:=hr;replace hr':w2.rangeAt b' (o'+k*9) A'.toList:=hr';have HR:=mK (fun W (e:Ext w2 W)=>Cv hr e);have HR':=mK (fun W (e:Ext w2 W)=>Cv hr' e);have K:=mK (fun W (e:Ext w2 W)=>Ox (.agg A) (.agg A') _ W (EltR.ext hv e) (EltR.ext hv' e) hnk);replace hEr:=mK hEr;replace hAs:=mK hAs;replace hAs':=mK hAs';clear hr hr' hv hv' hnk hd hlt2 hlt1 hA hA';go_wp2_with fail;apply Ak [.val (.slice (some ⟨b,o,none⟩) n c),.val (.int .i64 k),.val (.pointer (some ⟨b,o+k*9,none⟩)),.val (.agg A),.val (.slice (some ⟨b',o',none⟩) n c'),.val (.int .i64 k),.val (.pointer (some ⟨b',o'+k*9,none⟩)),.val (.agg A'),.val (.bool true),.val (.bool false)] (by kernel_rfl) (stable_vals _ (stable_vals _ (stable_vals _ (stable_vals _ (stable_vals _ (stable_vals _ (stable_vals _ (stable_vals _ (stable_vals _ (stable_vals _ trivial))))))))));iterate 3 (refine ⟨fun W hW _=>by go_simp;first|exact ⟨xR _,rfl⟩|exact xR _,?_⟩)
   refine ⟨?l1,?_⟩
   case l1=>
    intro W hW hF;have hr:=HR.out W hW;with_reducible refine Dc ?zhw 72 (.tmp 19) ?zho b (o+k*9) ?zhx A.toList _ hr Tryz.underlying72 ?zhd ?zhi ?zh
    case zhw=>kernel_rfl
    case zho=>rfl
    case zhx=>kernel_rfl
    case zhd=>rfl
    case zhi=>rw [Array.length_toList,hAs.out];kernel_rfl
    case zh=>exact ⟨xR _,by rw [Array.toArray_toList]⟩
   iterate 3 (refine ⟨fun W hW _=>by go_simp;first|exact ⟨xR _,rfl⟩|exact xR _,?_⟩)
   refine ⟨?l2,?_⟩
   case l2=>
    intro W hW hF;have hr:=HR'.out W hW;with_reducible refine Dc ?zhw 72 (.tmp 23) ?zho b' (o'+k*9) ?zhx A'.toList _ hr Tryz.underlying72 ?zhd ?zhi ?zh
    case zhw=>kernel_rfl
    case zho=>rfl
    case zhx=>kernel_rfl
    case zhd=>rfl
    case zhi=>rw [Array.length_toList,hAs'.out];kernel_rfl
    case zh=>exact ⟨xR _,by rw [Array.toArray_toList]⟩
   refine ⟨fun W hW _=>?cl,?_⟩
   case cl=>
    go_simp;refine (K.out W hW).mono ?_;rintro e w' ⟨rfl,h1⟩;exact ⟨rfl,h1⟩
   refine ⟨fun W hW _=>by go_simp;first|exact ⟨xR _,rfl⟩|exact xR _,?_⟩;intro W hW _;clear HR HR' K;replace hEr:=mK (hEr.out.trans hW);clear hW;go_simp;go_wp2_with fail;refine ⟨⟨k+1,by omega,by go_num,hEr.out⟩,by simp [intOf];omega⟩
  ·have hke:n=k:=by omega
   subst hke;replace hEr:=mK hEr;go_wp2_with fail;go_ret;exact ⟨rfl,by rw [←hw0.out];exact hEr.out⟩
theorem Xo (s s':Value)(os os':List (Rat×Value))(w:World)(h:Ls 4 FracR w s os)(h':Ls 4 FracR w s' os')(he:os.map (·.1)=os'.map (·.1))(hn:∀ x∈os,nf x.1≤2048)(hl:os.length≤1099511627776) :
  Calls Tryz.prog 101 #[s,s'] w fun e w'=>e=.returned (.bool true)∧Ext w w':=by
 have hle:os'.length=os.length:=by have:=congrArg List.length he;simpa using this.symm
 obtain ⟨a,c,e1,hc⟩:=h.slice;obtain ⟨a',c',e1',hc'⟩:=h'.slice;rw [hle] at e1' hc';have H:=mK (fun W (e:Ext w W)=>Ls.ext (w':=W) h (fun _ _ v=>FracR.ext v e) e);have H':=mK (fun W (e:Ext w W)=>Ls.ext (w':=W) h' (fun _ _ v=>FracR.ext v e) e);have he:=mK he;have hn:=mK hn;obtain ⟨n,hnl⟩:=nmE os.length;rw [←hnl] at e1 hc e1' hc' hle hl;replace hle:=mK hle;replace hnl:=mK hnl;subst e1;subst e1';clear h h';go_enter Tryz.func101,Tryz.ntmps101;go_wp2_with fail;obtain ⟨w0,hw0⟩:=nmE w;rw [←hw0] at H H';have st:Hid (∃ k:Nat,k≤n∧Value.int .i64 0=.int .i64 k∧Ext w0 w):=⟨0,Nat.zero_le _,rfl,by rw [hw0];exact xR _⟩
 have hw0:=mK hw0;go_loopw [5] (fun t5 wr=>∃ k:Nat,k≤n∧t5=.int .i64 k∧Ext w0 wr) (fun t5 _=>n-(intOf t5).toNat)
 case atStart=>exact st.out
 case round=>
  clear st;obtain ⟨k,hk,rfl,hEr⟩:=hrel;obtain ⟨w2,rfl⟩:=nmE (wr:World);by_cases hlt:k<n
  ·have hlt':(k:Int)<(n:Int):=by omega
   have hlt1:k<os.length:=by rw [←hnl.out];exact hlt
   have hlt2:k<os'.length:=by rw [hle.out];exact hlt
   obtain ⟨b,o,c1,x1,-,hr,hv⟩:=(H.out w2 hEr).get (by decide) hlt1;obtain ⟨b',o',c1',x1',-,hr',hv'⟩:=(H'.out w2 hEr).get (by decide) hlt2;rw [hle.out] at x1';rw [←hnl.out] at x1;simp only [Value.slice.injEq,true_and] at x1 x1';obtain ⟨rfl,rfl⟩:=x1;obtain ⟨rfl,rfl⟩:=x1'
   have hd:os'[k].1=os[k].1:=by
    have h1:(os'.map (·.1))[k]'(by simpa using hlt2)=(os.map (·.1))[k]'(by simpa using hlt1):=by simp only [he.out]
    simpa using h1
   rw [hd] at hv';have hnk:=hn.out _ (List.getElem_mem hlt1);obtain ⟨A,hA,hAs⟩:=Ae6 _ _ _ hv;obtain ⟨A',hA',hAs'⟩:=Ae6 _ _ _ hv';rw [hA] at hr hv;rw [hA'] at hr' hv';replace hr:w2.rangeAt b (o+k*4) A.toList:=hr;replace hr':w2.rangeAt b' (o'+k*4) A'.toList:=hr';have HR:=mK (fun W (e:Ext w2 W)=>Cv hr e);have HR':=mK (fun W (e:Ext w2 W)=>Cv hr' e);have K:=mK (fun W (e:Ext w2 W)=>Ko (.agg A) (.agg A') _ W (FracR.ext hv e) (FracR.ext hv' e) hnk);replace hEr:=mK hEr;replace hAs:=mK hAs;replace hAs':=mK hAs';clear hr hr' hv hv' hnk hd hlt2 hlt1 hA hA';go_wp2_with fail;apply Ak [.val (.slice (some ⟨b,o,none⟩) n c),.val (.int .i64 k),.val (.pointer (some ⟨b,o+k*4,none⟩)),.val (.agg A),.val (.slice (some ⟨b',o',none⟩) n c'),.val (.int .i64 k),.val (.pointer (some ⟨b',o'+k*4,none⟩)),.val (.agg A'),.val (.bool true),.val (.bool false)] (by kernel_rfl) (stable_vals _ (stable_vals _ (stable_vals _ (stable_vals _ (stable_vals _ (stable_vals _ (stable_vals _ (stable_vals _ (stable_vals _ (stable_vals _ trivial))))))))));iterate 3 (refine ⟨fun W hW _=>by go_simp;first|exact ⟨xR _,rfl⟩|exact xR _,?_⟩)
   refine ⟨?l1,?_⟩
   case l1=>
    intro W hW hF;have hr:=HR.out W hW;with_reducible refine Dc ?zhw 28 (.tmp 19) ?zho b (o+k*4) ?zhx A.toList _ hr Tryz.underlying28 ?zhd ?zhi ?zh
    case zhw=>kernel_rfl
    case zho=>rfl
    case zhx=>kernel_rfl
    case zhd=>rfl
    case zhi=>rw [Array.length_toList,hAs.out];kernel_rfl
    case zh=>exact ⟨xR _,by rw [Array.toArray_toList]⟩
   iterate 3 (refine ⟨fun W hW _=>by go_simp;first|exact ⟨xR _,rfl⟩|exact xR _,?_⟩)
   refine ⟨?l2,?_⟩
   case l2=>
    intro W hW hF;have hr:=HR'.out W hW;with_reducible refine Dc ?zhw 28 (.tmp 23) ?zho b' (o'+k*4) ?zhx A'.toList _ hr Tryz.underlying28 ?zhd ?zhi ?zh
    case zhw=>kernel_rfl
    case zho=>rfl
    case zhx=>kernel_rfl
    case zhd=>rfl
    case zhi=>rw [Array.length_toList,hAs'.out];kernel_rfl
    case zh=>exact ⟨xR _,by rw [Array.toArray_toList]⟩
   refine ⟨fun W hW _=>?cl,?_⟩
   case cl=>
    go_simp;refine (K.out W hW).mono ?_;rintro e w' ⟨rfl,h1⟩;exact ⟨rfl,h1⟩
   refine ⟨fun W hW _=>by go_simp;first|exact ⟨xR _,rfl⟩|exact xR _,?_⟩;intro W hW _;clear HR HR' K;replace hEr:=mK (hEr.out.trans hW);clear hW;go_simp;go_wp2_with fail;refine ⟨⟨k+1,by omega,by go_num,hEr.out⟩,by simp [intOf];omega⟩
  ·have hke:n=k:=by omega
   subst hke;replace hEr:=mK hEr;go_wp2_with fail;go_ret;exact ⟨rfl,by rw [←hw0.out];exact hEr.out⟩
theorem Xn (s s':Value)(os os':List (PD×Value))(w:World)(h:Ls 11 PrtR w s os)(h':Ls 11 PrtR w s' os')(he:os.map (·.1)=os'.map (·.1))(hn:∀ x∈os,nf x.1.p≤2048∧nf x.1.q≤2048)(hl:os.length≤1099511627776) :
  Calls Tryz.prog 102 #[s,s'] w fun e w'=>e=.returned (.bool true)∧Ext w w':=by
 have hle:os'.length=os.length:=by have:=congrArg List.length he;simpa using this.symm
 obtain ⟨a,c,e1,hc⟩:=h.slice;obtain ⟨a',c',e1',hc'⟩:=h'.slice;rw [hle] at e1' hc';have H:=mK (fun W (e:Ext w W)=>Ls.ext (w':=W) h (fun _ _ v=>PrtR.ext v e) e);have H':=mK (fun W (e:Ext w W)=>Ls.ext (w':=W) h' (fun _ _ v=>PrtR.ext v e) e);have he:=mK he;have hn:=mK hn;obtain ⟨n,hnl⟩:=nmE os.length;rw [←hnl] at e1 hc e1' hc' hle hl;replace hle:=mK hle;replace hnl:=mK hnl;subst e1;subst e1';clear h h';go_enter Tryz.func102,Tryz.ntmps102;go_wp2_with fail;obtain ⟨w0,hw0⟩:=nmE w;rw [←hw0] at H H';have st:Hid (∃ k:Nat,k≤n∧Value.int .i64 0=.int .i64 k∧Ext w0 w):=⟨0,Nat.zero_le _,rfl,by rw [hw0];exact xR _⟩
 have hw0:=mK hw0;go_loopw [5] (fun t5 wr=>∃ k:Nat,k≤n∧t5=.int .i64 k∧Ext w0 wr) (fun t5 _=>n-(intOf t5).toNat)
 case atStart=>exact st.out
 case round=>
  clear st;obtain ⟨k,hk,rfl,hEr⟩:=hrel;obtain ⟨w2,rfl⟩:=nmE (wr:World);by_cases hlt:k<n
  ·have hlt':(k:Int)<(n:Int):=by omega
   have hlt1:k<os.length:=by rw [←hnl.out];exact hlt
   have hlt2:k<os'.length:=by rw [hle.out];exact hlt
   obtain ⟨b,o,c1,x1,-,hr,hv⟩:=(H.out w2 hEr).get (by decide) hlt1;obtain ⟨b',o',c1',x1',-,hr',hv'⟩:=(H'.out w2 hEr).get (by decide) hlt2;rw [hle.out] at x1';rw [←hnl.out] at x1;simp only [Value.slice.injEq,true_and] at x1 x1';obtain ⟨rfl,rfl⟩:=x1;obtain ⟨rfl,rfl⟩:=x1'
   have hd:os'[k].1=os[k].1:=by
    have h1:(os'.map (·.1))[k]'(by simpa using hlt2)=(os.map (·.1))[k]'(by simpa using hlt1):=by simp only [he.out]
    simpa using h1
   rw [hd] at hv';have hnk:=hn.out _ (List.getElem_mem hlt1);obtain ⟨A,hA,hAs⟩:=Ae5 _ _ _ hv;obtain ⟨A',hA',hAs'⟩:=Ae5 _ _ _ hv';rw [hA] at hr hv;rw [hA'] at hr' hv';replace hr:w2.rangeAt b (o+k*11) A.toList:=hr;replace hr':w2.rangeAt b' (o'+k*11) A'.toList:=hr';have HR:=mK (fun W (e:Ext w2 W)=>Cv hr e);have HR':=mK (fun W (e:Ext w2 W)=>Cv hr' e);have K:=mK (fun W (e:Ext w2 W)=>Ow (.agg A) (.agg A') _ W (PrtR.ext hv e) (PrtR.ext hv' e) hnk);replace hEr:=mK hEr;replace hAs:=mK hAs;replace hAs':=mK hAs';clear hr hr' hv hv' hnk hd hlt2 hlt1 hA hA';go_wp2_with fail;apply Ak [.val (.slice (some ⟨b,o,none⟩) n c),.val (.int .i64 k),.val (.pointer (some ⟨b,o+k*11,none⟩)),.val (.agg A),.val (.slice (some ⟨b',o',none⟩) n c'),.val (.int .i64 k),.val (.pointer (some ⟨b',o'+k*11,none⟩)),.val (.agg A'),.val (.bool true),.val (.bool false)] (by kernel_rfl) (stable_vals _ (stable_vals _ (stable_vals _ (stable_vals _ (stable_vals _ (stable_vals _ (stable_vals _ (stable_vals _ (stable_vals _ (stable_vals _ trivial))))))))));iterate 3 (refine ⟨fun W hW _=>by go_simp;first|exact ⟨xR _,rfl⟩|exact xR _,?_⟩)
   refine ⟨?l1,?_⟩
   case l1=>
    intro W hW hF;have hr:=HR.out W hW;with_reducible refine Dc ?zhw 74 (.tmp 19) ?zho b (o+k*11) ?zhx A.toList _ hr Tryz.underlying74 ?zhd ?zhi ?zh
    case zhw=>kernel_rfl
    case zho=>rfl
    case zhx=>kernel_rfl
    case zhd=>rfl
    case zhi=>rw [Array.length_toList,hAs.out];kernel_rfl
    case zh=>exact ⟨xR _,by rw [Array.toArray_toList]⟩
   iterate 3 (refine ⟨fun W hW _=>by go_simp;first|exact ⟨xR _,rfl⟩|exact xR _,?_⟩)
   refine ⟨?l2,?_⟩
   case l2=>
    intro W hW hF;have hr:=HR'.out W hW;with_reducible refine Dc ?zhw 74 (.tmp 23) ?zho b' (o'+k*11) ?zhx A'.toList _ hr Tryz.underlying74 ?zhd ?zhi ?zh
    case zhw=>kernel_rfl
    case zho=>rfl
    case zhx=>kernel_rfl
    case zhd=>rfl
    case zhi=>rw [Array.length_toList,hAs'.out];kernel_rfl
    case zh=>exact ⟨xR _,by rw [Array.toArray_toList]⟩
   refine ⟨fun W hW _=>?cl,?_⟩
   case cl=>
    go_simp;refine (K.out W hW).mono ?_;rintro e w' ⟨rfl,h1⟩;exact ⟨rfl,h1⟩
   refine ⟨fun W hW _=>by go_simp;first|exact ⟨xR _,rfl⟩|exact xR _,?_⟩;intro W hW _;clear HR HR' K;replace hEr:=mK (hEr.out.trans hW);clear hW;go_simp;go_wp2_with fail;refine ⟨⟨k+1,by omega,by go_num,hEr.out⟩,by simp [intOf];omega⟩
  ·have hke:n=k:=by omega
   subst hke;replace hEr:=mK hEr;go_wp2_with fail;go_ret;exact ⟨rfl,by rw [←hw0.out];exact hEr.out⟩
theorem Ti (s s':Value)(os os':List (Int×Value))(w:World)(h:Ls 1 NumA w s os)(h':Ls 1 NumA w s' os')(he:os.map (·.1)=os'.map (·.1))(hl:os.length≤1099511627776) :
  Calls Tryz.prog 103 #[s,s'] w fun e w'=>e=.returned (.bool true)∧Ext w w':=by
 have hle:os'.length=os.length:=by have:=congrArg List.length he;simpa using this.symm
 obtain ⟨a,c,e1,hc⟩:=h.slice;obtain ⟨a',c',e1',hc'⟩:=h'.slice;rw [hle] at e1' hc';have H:=mK (fun W (e:Ext w W)=>Ls.ext (w':=W) h (fun _ _ v=>v) e);have H':=mK (fun W (e:Ext w W)=>Ls.ext (w':=W) h' (fun _ _ v=>v) e);have he:=mK he;obtain ⟨n,hnl⟩:=nmE os.length;rw [←hnl] at e1 hc e1' hc' hle hl;replace hle:=mK hle;replace hnl:=mK hnl;subst e1;subst e1';clear h h';go_enter Tryz.func103,Tryz.ntmps103;go_wp2_with fail;obtain ⟨w0,hw0⟩:=nmE w;rw [←hw0] at H H';have st:Hid (∃ k:Nat,k≤n∧Value.int .i64 0=.int .i64 k∧Ext w0 w):=⟨0,Nat.zero_le _,rfl,by rw [hw0];exact xR _⟩
 have hw0:=mK hw0;go_loopw [5] (fun t5 wr=>∃ k:Nat,k≤n∧t5=.int .i64 k∧Ext w0 wr) (fun t5 _=>n-(intOf t5).toNat)
 case atStart=>exact st.out
 case round=>
  clear st;obtain ⟨k,hk,rfl,hEr⟩:=hrel;obtain ⟨w2,rfl⟩:=nmE (wr:World);by_cases hlt:k<n
  ·have hlt':(k:Int)<(n:Int):=by omega
   have hlt1:k<os.length:=by rw [←hnl.out];exact hlt
   have hlt2:k<os'.length:=by rw [hle.out];exact hlt
   obtain ⟨b,o,c1,x1,-,hr,hv⟩:=(H.out w2 hEr).get (by decide) hlt1;obtain ⟨b',o',c1',x1',-,hr',hv'⟩:=(H'.out w2 hEr).get (by decide) hlt2;rw [hle.out] at x1';rw [←hnl.out] at x1;simp only [Value.slice.injEq,true_and] at x1 x1';obtain ⟨rfl,rfl⟩:=x1;obtain ⟨rfl,rfl⟩:=x1'
   have hd:os'[k].1=os[k].1:=by
    have h1:(os'.map (·.1))[k]'(by simpa using hlt2)=(os.map (·.1))[k]'(by simpa using hlt1):=by simp only [he.out]
    simpa using h1
   rw [hd] at hv';unfold NumA at hv hv';obtain ⟨q,hq⟩:=nmE (os[k].1);rw [hv,←hq] at hr;rw [hv',←hq] at hr'
   have c1:∀ W,Ext w2 W→W.cell? ⟨b,o+k,none⟩=some (.int .i64 q):=fun W e=>e.cell (by
    have:=hr 0 (.int .i64 q) rfl
    simpa using this)
   have c2:∀ W,Ext w2 W→W.cell? ⟨b',o'+k,none⟩=some (.int .i64 q):=fun W e=>e.cell (by
    have:=hr' 0 (.int .i64 q) rfl
    simpa using this)
   replace c1:=mK c1;replace c2:=mK c2;replace hEr:=mK hEr;clear hr hr' hv hv' hd hlt2 hlt1 hq;go_wp2_with fail;apply Ak [.val (.slice (some ⟨b,o,none⟩) n c),.val (.int .i64 k),.val (.pointer (some ⟨b,o+k,none⟩)),.val (.int .i64 q),.val (.slice (some ⟨b',o',none⟩) n c'),.val (.int .i64 k),.val (.pointer (some ⟨b',o'+k,none⟩)),.val (.int .i64 q),.val (.bool false)] (by kernel_rfl) (stable_vals _ (stable_vals _ (stable_vals _ (stable_vals _ (stable_vals _ (stable_vals _ (stable_vals _ (stable_vals _ (stable_vals _ trivial)))))))));iterate 3 (refine ⟨fun W hW _=>by go_simp;first|exact ⟨xR _,rfl⟩|exact xR _,?_⟩)
   refine ⟨fun W hW _=>by have cc:=c1.out W hW;go_simp;first|exact ⟨xR _,rfl⟩|exact xR _,?_⟩;iterate 3 (refine ⟨fun W hW _=>by go_simp;first|exact ⟨xR _,rfl⟩|exact xR _,?_⟩)
   refine ⟨fun W hW _=>by have cc:=c2.out W hW;go_simp;first|exact ⟨xR _,rfl⟩|exact xR _,?_⟩;refine ⟨fun W hW _=>by go_simp;first|exact ⟨xR _,rfl⟩|exact xR _,?_⟩;intro W hW _;clear c1 c2;replace hEr:=mK (hEr.out.trans hW);clear hW;go_simp;go_wp2_with fail;refine ⟨⟨k+1,by omega,by go_num,hEr.out⟩,by simp [intOf];omega⟩
  ·have hke:n=k:=by omega
   subst hke;replace hEr:=mK hEr;go_wp2_with fail;go_ret;exact ⟨rfl,by rw [←hw0.out];exact hEr.out⟩
theorem Xm (y u y' u':FV)(w:World)(h1:SmF w y y')(h2:SmF w u u') :
  Calls Tryz.prog 46 #[.agg #[.bool y.b1,.slice y.a1 y.n1 y.c1,.bool y.b2,.slice y.a2 y.n2 y.c2,.bool u.b1,.slice u.a1 u.n1 u.c1,.bool u.b2,.slice u.a2 u.n2 u.c2],.agg #[.bool y'.b1,.slice y'.a1 y'.n1 y'.c1,.bool y'.b2,.slice y'.a2 y'.n2 y'.c2,.bool u'.b1,.slice u'.a1 u'.n1 u'.c1,.bool u'.b2,.slice u'.a2 u'.n2 u'.c2]] w fun e w'=>e=.returned (.bool true)∧Ext w w':=by
 obtain ⟨w2,hw2⟩:=nmE ((w.alloc (.cells #[.bool y.b1,.slice y.a1 y.n1 y.c1,.bool y.b2,.slice y.a2 y.n2 y.c2,.bool u.b1,.slice u.a1 u.n1 u.c1,.bool u.b2,.slice u.a2 u.n2 u.c2] 30)).alloc (.cells #[.bool y'.b1,.slice y'.a1 y'.n1 y'.c1,.bool y'.b2,.slice y'.a2 y'.n2 y'.c2,.bool u'.b1,.slice u'.a1 u'.n1 u'.c1,.bool u'.b2,.slice u'.a2 u'.n2 u'.c2] 30));have hE:=aLe2 hw2;have z0:=aL20 hw2;have z1:=aL21 hw2;have Z0:=mK (fun W (e:Ext w2 W)=>e.blk z0);have Z1:=mK (fun W (e:Ext w2 W)=>e.blk z1);have K1:=mK (fun W (e:Ext w2 W)=>Iw y y' W (h1.ext (hE.trans e)));have K2:=mK (fun W (e:Ext w2 W)=>Iw u u' W (h2.ext (hE.trans e)));replace hw2:=mK hw2;replace hE:=mK hE;clear z0 z1 h1 h2;go_enter Tryz.func46,Tryz.ntmps46;have tok:Tok 0:=.mk _
 go_wp2_with (first
  | (replace tok:Tok 1:=nxT 0 tok;rw [←hw2.out];refine Ap (by rfl) 28 (.tmp 5) rfl w.heap.size 0 rfl 30 _ #[.bool y.b1,.slice y.a1 y.n1 y.c1,.bool y.b2,.slice y.a2 y.n2 y.c2] (0,0) _ (Z0.out _ (xR _)) rfl Tryz.underlying28 rfl (by kernel_rfl) ?_)
  | (replace tok:Tok 2:=nxT 1 tok;refine Ap (by rfl) 28 (.tmp 7) rfl (w.heap.size+1) 0 rfl 30 _ #[.bool y'.b1,.slice y'.a1 y'.n1 y'.c1,.bool y'.b2,.slice y'.a2 y'.n2 y'.c2] (0,0) _ (Z1.out _ (xR _)) rfl Tryz.underlying28 rfl (by kernel_rfl) ?_)
  | (replace tok:Tok 3:=nxT 2 tok;go_at_call 47;refine (K1.out _ (xR _)).mono ?_;rintro e w3 ⟨rfl,hx⟩;(replace hx:=mK hx))
  | (replace tok:Tok 4:=nxT 3 tok;refine Ag (by rfl) 28 (.tmp 11) rfl w.heap.size 4 rfl 30 _ #[.bool u.b1,.slice u.a1 u.n1 u.c1,.bool u.b2,.slice u.a2 u.n2 u.c2] (0,0) _ (Z0.out _ hx.out) rfl Tryz.underlying28 rfl (by kernel_rfl) ?_)
  | (replace tok:Tok 5:=nxT 4 tok;refine Ag (by rfl) 28 (.tmp 13) rfl (w.heap.size+1) 4 rfl 30 _ #[.bool u'.b1,.slice u'.a1 u'.n1 u'.c1,.bool u'.b2,.slice u'.a2 u'.n2 u'.c2] (0,0) _ (Z1.out _ hx.out) rfl Tryz.underlying28 rfl (by kernel_rfl) ?_)
  | (replace tok:Tok 6:=nxT 5 tok;go_at_call 47;refine (K2.out _ hx.out).mono ?_;rintro e w4 ⟨rfl,hy⟩))
 go_ret;exact ⟨rfl,hE.out.trans (hx.out.trans hy)⟩
def SmC (f:Nat)(w:World)(v v':Value):Prop:=∀ W,Ext w W→Calls Tryz.prog f #[v,v'] W fun e w'=>e=.returned (.bool true)∧Ext W w'
theorem SmC.ext {f:Nat}{w w':World}{v v':Value}(h:SmC f w v v')(e:Ext w w'):SmC f w' v v':=fun W k=>h W (e.trans k)
theorem Tg (s2 s3 s2' s3':Value)(tg tg':FV)(w:World)(h1:SmC 101 w s2 s2')(h2:SmC 102 w s3 s3')(h3:SmF w tg tg') :
  SmC 48 w (.agg (Ct s2 s3 tg)) (.agg (Ct s2' s3' tg')):=by
 intro w eW;replace h1:=h1.ext eW;replace h2:=h2.ext eW;replace h3:=h3.ext eW;clear eW;obtain ⟨w2,hw2⟩:=nmE ((w.alloc (.cells (Ct s2 s3 tg) 34)).alloc (.cells (Ct s2' s3' tg') 34));have hE:=aLe2 hw2;have z0:=aL20 hw2;have z1:=aL21 hw2;have cE:=mK (fun W (e:Ext w2 W)=>show W.cell? ⟨w.heap.size,0,none⟩=some s2∧W.cell? ⟨w.heap.size,1,none⟩=some s3∧W.cell? ⟨w.heap.size+1,0,none⟩=some s2'∧W.cell? ⟨w.heap.size+1,1,none⟩=some s3' from ⟨Al (e.blk z0) 0,Al (e.blk z0) 1,Al (e.blk z1) 0,Al (e.blk z1) 1⟩);have Z0:=mK (fun W (e:Ext w2 W)=>e.blk z0);have Z1:=mK (fun W (e:Ext w2 W)=>e.blk z1);have K1:=mK (h1.ext hE);have K2:=mK (h2.ext hE);have K3:=mK (fun W (e:Ext w2 W)=>Iw tg tg' W (h3.ext (hE.trans e)));simp only [Ct] at hw2 Z0 Z1 ⊢;replace hw2:=mK hw2;replace hE:=mK hE;obtain ⟨y0,y1,x0,x1⟩:=cE.out w2 (xR _);clear z0 z1 h1 h2 h3;go_enter Tryz.func48,Tryz.ntmps48;have tok:Tok 0:=.mk _
 go_wp2_with (first
  | (replace tok:Tok 1:=nxT 0 tok;rw [←hw2.out])
  | (replace tok:Tok 2:=nxT 1 tok;go_at_call 101;refine (K1.out _ (xR _)).mono ?_;rintro e w3 ⟨rfl,hx⟩;(obtain ⟨u0',y1',u1',x1'⟩:=cE.out w3 hx);(replace hx:=mK hx))
  | (replace tok:Tok 3:=nxT 2 tok;go_at_call 102;refine (K2.out _ hx.out).mono ?_;rintro e w4 ⟨rfl,hy⟩;(replace hx:=mK (hx.out.trans hy));clear hy)
  | (replace tok:Tok 4:=nxT 3 tok;refine Ag (by rfl) 28 (.tmp 18) rfl (w.heap.size) 2 rfl 34 _ #[.bool tg.b1,.slice tg.a1 tg.n1 tg.c1,.bool tg.b2,.slice tg.a2 tg.n2 tg.c2] (0,0) _ (Z0.out _ hx.out) rfl Tryz.underlying28 rfl (by kernel_rfl) ?_)
  | (replace tok:Tok 5:=nxT 4 tok;refine Ag (by rfl) 28 (.tmp 20) rfl (w.heap.size+1) 2 rfl 34 _ #[.bool tg'.b1,.slice tg'.a1 tg'.n1 tg'.c1,.bool tg'.b2,.slice tg'.a2 tg'.n2 tg'.c2] (0,0) _ (Z1.out _ hx.out) rfl Tryz.underlying28 rfl (by kernel_rfl) ?_)
  | (replace tok:Tok 6:=nxT 5 tok;go_at_call 47;refine (K3.out _ hx.out).mono ?_;rintro e w5 ⟨rfl,hy⟩))
 go_ret;exact ⟨rfl,hE.out.trans (hx.out.trans hy)⟩
theorem Oy (s4 s4':Value)(pw pw':FV)(co:Int)(w:World)(h1:SmC 103 w s4 s4')(h3:SmF w pw pw') :
  SmC 49 w (.agg (chcC s4 pw co)) (.agg (chcC s4' pw' co)):=by
 intro w eW;replace h1:=h1.ext eW;replace h3:=h3.ext eW;clear eW;obtain ⟨w2,hw2⟩:=nmE ((w.alloc (.cells (chcC s4 pw co) 37)).alloc (.cells (chcC s4' pw' co) 37));have hE:=aLe2 hw2;have z0:=aL20 hw2;have z1:=aL21 hw2;have cE:=mK (fun W (e:Ext w2 W)=>show W.cell? ⟨w.heap.size,0,none⟩=some s4∧W.cell? ⟨w.heap.size,5,none⟩=some (.int .i64 co)∧W.cell? ⟨w.heap.size+1,0,none⟩=some s4'∧W.cell? ⟨w.heap.size+1,5,none⟩=some (.int .i64 co) from ⟨Al (e.blk z0) 0,Al (e.blk z0) 5,Al (e.blk z1) 0,Al (e.blk z1) 5⟩);have Z0:=mK (fun W (e:Ext w2 W)=>e.blk z0);have Z1:=mK (fun W (e:Ext w2 W)=>e.blk z1);have K1:=mK (h1.ext hE);have K3:=mK (fun W (e:Ext w2 W)=>Iw pw pw' W (h3.ext (hE.trans e)));simp only [chcC] at hw2 Z0 Z1 ⊢;replace hw2:=mK hw2;replace hE:=mK hE;obtain ⟨y0,y1,x0,x1⟩:=cE.out w2 (xR _);clear z0 z1 h1 h3;go_enter Tryz.func49,Tryz.ntmps49;have tok:Tok 0:=.mk _
 go_wp2_with (first
  | (replace tok:Tok 1:=nxT 0 tok;rw [←hw2.out])
  | (replace tok:Tok 2:=nxT 1 tok;go_at_call 103;refine (K1.out _ (xR _)).mono ?_;rintro e w3 ⟨rfl,hx⟩;(replace hx:=mK hx))
  | (replace tok:Tok 3:=nxT 2 tok;refine Ag (by rfl) 28 (.tmp 11) rfl (w.heap.size) 1 rfl 37 _ #[.bool pw.b1,.slice pw.a1 pw.n1 pw.c1,.bool pw.b2,.slice pw.a2 pw.n2 pw.c2] (0,0) _ (Z0.out _ hx.out) rfl Tryz.underlying28 rfl (by kernel_rfl) ?_)
  | (replace tok:Tok 4:=nxT 3 tok;refine Ag (by rfl) 28 (.tmp 13) rfl (w.heap.size+1) 1 rfl 37 _ #[.bool pw'.b1,.slice pw'.a1 pw'.n1 pw'.c1,.bool pw'.b2,.slice pw'.a2 pw'.n2 pw'.c2] (0,0) _ (Z1.out _ hx.out) rfl Tryz.underlying28 rfl (by kernel_rfl) ?_)
  | (replace tok:Tok 5:=nxT 4 tok;go_at_call 47;refine (K3.out _ hx.out).mono ?_;rintro e w4 ⟨rfl,hy⟩;(replace hx:=mK (hx.out.trans hy));(obtain ⟨u0',y5',u1',x5'⟩:=cE.out w4 hx.out);clear hy))
 go_ret;exact ⟨by first|rfl|simp,hE.out.trans hx.out⟩
structure SmP (w:World) (x x':PVd):Prop where
 kd:x.kd=x'.kd
 st:x.st=x'.st
 co:x.co=x'.co
 be:SmC 45 w x.s1 x'.s1
 sp:SmC 101 w x.s2 x'.s2
 pt:SmC 102 w x.s3 x'.s3
 pk:SmC 103 w x.s4 x'.s4
 y:SmF w x.y x'.y
 u:SmF w x.u x'.u
 m:SmF w x.m x'.m
 tg:SmF w x.tg x'.tg
 pw:SmF w x.pw x'.pw
theorem Fp (x x':PVd)(w:World)(h:SmP w x x'):Calls Tryz.prog 13 #[.agg (pfC x),.agg (pfC x')] w fun e w'=>e=.returned (.bool true)∧Ext w w':=by
 obtain ⟨q1,q2,q3,h1,h2,h3,h4,h5,h6,h7,h8,h9⟩:=h;obtain ⟨w2,hw2⟩:=nmE ((w.alloc (.cells (pfC x) 39)).alloc (.cells (pfC x') 39));have hE:=aLe2 hw2;have z0:=aL20 hw2;have z1:=aL21 hw2;have cE:=mK (fun W (e:Ext w2 W)=>And.intro (Em (e.blk z0)) (Em (e.blk z1)));have Z0:=mK (fun W (e:Ext w2 W)=>e.blk z0);have Z1:=mK (fun W (e:Ext w2 W)=>e.blk z1);have K1:=mK (h1.ext hE);have K2:=mK (fun W (e:Ext w2 W)=>Xm x.y x.u x'.y x'.u W (h5.ext (hE.trans e)) (h6.ext (hE.trans e)));have K3:=mK (fun W (e:Ext w2 W)=>Iw x.m x'.m W (h7.ext (hE.trans e)));have K4:=mK ((Tg _ _ _ _ _ _ w h2 h3 h8).ext hE);have K5:=mK ((Oy x.s4 x'.s4 x.pw x'.pw x.co w h4 h9).ext hE);clear h1 h2 h3 h4 h5 h6 h7 h8 h9 z0 z1;obtain ⟨kd,s1,y,u,m,st,s2,s3,tg,s4,pw,co⟩:=x;obtain ⟨kd',s1',y',u',m',st',s2',s3',tg',s4',pw',co'⟩:=x';simp only at q1 q2 q3 cE K1 K2 K3 K4 K5;subst q1 q2 q3;simp only [pfC,Ct,chcC] at hw2 Z0 Z1 K4 K5 ⊢;replace hw2:=mK hw2;replace hE:=mK hE;obtain ⟨⟨y0,y1,y2,-,-,-,-⟩,⟨x0,x1,x2,-,-,-,-⟩⟩:=cE.out w2 (xR _);have hk:(kd==kd)=true:=by simp
 go_enter Tryz.func13,Tryz.ntmps13;have tok:Tok 0:=.mk _
 go_wp2_with (first
  | (replace tok:Tok 1:=nxT 0 tok;rw [←hw2.out])
  | (replace tok:Tok 2:=nxT 1 tok;go_at_call 45;refine (K1.out _ (xR _)).mono ?_;rintro e w3 ⟨rfl,hx⟩;(replace hx:=mK hx))
  | (replace tok:Tok 3:=nxT 2 tok;refine Ag (by rfl) 30 (.tmp 18) rfl (w.heap.size) 2 rfl 39 _ #[.bool y.b1,.slice y.a1 y.n1 y.c1,.bool y.b2,.slice y.a2 y.n2 y.c2,.bool u.b1,.slice u.a1 u.n1 u.c1,.bool u.b2,.slice u.a2 u.n2 u.c2] (0,0) _ (Z0.out _ hx.out) rfl Tryz.underlying30 rfl (by kernel_rfl) ?_)
  | (replace tok:Tok 4:=nxT 3 tok;refine Ag (by rfl) 30 (.tmp 20) rfl (w.heap.size+1) 2 rfl 39 _ #[.bool y'.b1,.slice y'.a1 y'.n1 y'.c1,.bool y'.b2,.slice y'.a2 y'.n2 y'.c2,.bool u'.b1,.slice u'.a1 u'.n1 u'.c1,.bool u'.b2,.slice u'.a2 u'.n2 u'.c2] (0,0) _ (Z1.out _ hx.out) rfl Tryz.underlying30 rfl (by kernel_rfl) ?_)
  | (replace tok:Tok 5:=nxT 4 tok;go_at_call 46;refine (K2.out _ hx.out).mono ?_;rintro e w4 ⟨rfl,hy⟩;(replace hx:=mK (hx.out.trans hy));clear hy)
  | (replace tok:Tok 6:=nxT 5 tok;refine Ag (by rfl) 28 (.tmp 25) rfl (w.heap.size) 10 rfl 39 _ #[.bool m.b1,.slice m.a1 m.n1 m.c1,.bool m.b2,.slice m.a2 m.n2 m.c2] (0,0) _ (Z0.out _ hx.out) rfl Tryz.underlying28 rfl (by kernel_rfl) ?_)
  | (replace tok:Tok 7:=nxT 6 tok;refine Ag (by rfl) 28 (.tmp 27) rfl (w.heap.size+1) 10 rfl 39 _ #[.bool m'.b1,.slice m'.a1 m'.n1 m'.c1,.bool m'.b2,.slice m'.a2 m'.n2 m'.c2] (0,0) _ (Z1.out _ hx.out) rfl Tryz.underlying28 rfl (by kernel_rfl) ?_)
  | (replace tok:Tok 8:=nxT 7 tok;go_at_call 47;refine (K3.out _ hx.out).mono ?_;rintro e w5 ⟨rfl,hy⟩;(replace hx:=mK (hx.out.trans hy));(obtain ⟨⟨-,-,y3,-,-,-,-⟩,⟨-,-,x3,-,-,-,-⟩⟩:=cE.out w5 hx.out);clear hy)
  | (replace tok:Tok 9:=nxT 8 tok;refine Ag (by rfl) 34 (.tmp 39) rfl (w.heap.size) 15 rfl 39 _ #[s2,s3,.bool tg.b1,.slice tg.a1 tg.n1 tg.c1,.bool tg.b2,.slice tg.a2 tg.n2 tg.c2] (0,0) _ (Z0.out _ hx.out) rfl Tryz.underlying34 rfl (by kernel_rfl) ?_)
  | (replace tok:Tok 10:=nxT 9 tok;refine Ag (by rfl) 34 (.tmp 41) rfl (w.heap.size+1) 15 rfl 39 _ #[s2',s3',.bool tg'.b1,.slice tg'.a1 tg'.n1 tg'.c1,.bool tg'.b2,.slice tg'.a2 tg'.n2 tg'.c2] (0,0) _ (Z1.out _ hx.out) rfl Tryz.underlying34 rfl (by kernel_rfl) ?_)
  | (replace tok:Tok 11:=nxT 10 tok;go_at_call 48;refine (K4.out _ hx.out).mono ?_;rintro e w6 ⟨rfl,hy⟩;(replace hx:=mK (hx.out.trans hy));clear hy)
  | (replace tok:Tok 12:=nxT 11 tok;refine Ag (by rfl) 37 (.tmp 46) rfl (w.heap.size) 21 rfl 39 _ #[s4,.bool pw.b1,.slice pw.a1 pw.n1 pw.c1,.bool pw.b2,.slice pw.a2 pw.n2 pw.c2,.int .i64 co] (0,0) _ (Z0.out _ hx.out) rfl Tryz.underlying37 rfl (by kernel_rfl) ?_)
  | (replace tok:Tok 13:=nxT 12 tok;refine Ag (by rfl) 37 (.tmp 48) rfl (w.heap.size+1) 21 rfl 39 _ #[s4',.bool pw'.b1,.slice pw'.a1 pw'.n1 pw'.c1,.bool pw'.b2,.slice pw'.a2 pw'.n2 pw'.c2,.int .i64 co] (0,0) _ (Z1.out _ hx.out) rfl Tryz.underlying37 rfl (by kernel_rfl) ?_)
  | (replace tok:Tok 14:=nxT 13 tok;go_at_call 49;refine (K5.out _ hx.out).mono ?_;rintro e w7 ⟨rfl,hy⟩))
 go_ret;exact ⟨rfl,hE.out.trans (hx.out.trans hy)⟩
def strV (l:List UInt8):Value:=.string ⟨l.toArray⟩
def RdS (rp:Nat)(R:WL)(bad:Bool)(w:World):Prop:=
 ∃ (g:Nat) (pre:WL) (a:Option Addr) (c:Nat),w.heap[rp]? = some (.cells #[.slice a R.length c,.bool bad] 82 (0,0))∧R.length≤c∧(R≠[]→a=some ⟨g,pre.length,none⟩)∧w.heap[g]? = some (.cells ((pre++R).map strV).toArray 9 (0,0))∧g≠rp
theorem RdS.ext {rp:Nat}{R:WL}{bad:Bool}{w w':World}(h:RdS rp R bad w)(e:Ext w w'):RdS rp R bad w':=by
 obtain ⟨g,pre,a,c,h1,h2,h3,h4,h5⟩:=h;exact ⟨g,pre,a,c,e.blk h1,h2,h3,e.blk h4,h5⟩
theorem Ej (rp:Nat)(R:WL)(bad:Bool)(w:World)(h:RdS rp R bad w) :
  Calls Tryz.prog 34 #[.pointer (some ⟨rp,0,none⟩)] w fun e w'=>e=.returned (.string ⟨(R.headD []).toArray⟩)∧RdS rp R.tail (bad||R.isEmpty) w'∧Chg w w' (· = rp):=by
 obtain ⟨g,pre,a,c,h1,h2,h3,h4,h5⟩:=h;cases R with
 | nil=>
  obtain ⟨y0,y1⟩:=ceL1 h1;have f1:w.frozen? ⟨rp,1,none⟩=false:=Lib.frozen_of_heap h1 1;have e1:=mK (setCell_eq_setRow w rp 1 _ _ _ (.bool true) h1);have hz:(([]:WL).length:Int)=0:=rfl;have H:Hid (RdS rp [] true (w.setRow rp #[.slice a ([]:WL).length c,.bool true])):=⟨g,pre,a,c,setRow_heap _ _ _ _ _ _ h1,h2,h3,(setRow_other _ _ _ _ h5).trans h4,h5⟩
  replace h1:=mK h1;replace h4:=mK h4;clear h2 h3;go_enter Tryz.func34,Tryz.ntmps34;go_wp2_with fail;go_ret;rw [show w.setCell ⟨rp,1,none⟩ (.bool true)=_ from e1.out];exact ⟨rfl,by simpa using H.out,Aq w rp _⟩
 | cons x R'=>
  obtain ⟨y0,y1⟩:=ceL1 h1;obtain rfl:=h3 (by simp)
  have hx:w.cell? ⟨g,pre.length,none⟩=some (.string ⟨x.toArray⟩):=by
   simp [World.cell?,h4,strV]
  have f0:w.frozen? ⟨rp,0,none⟩=false:=Lib.frozen_of_heap h1 0;have hc0:1≤c:=by simp at h2;omega
  have hc2:(1:Int)≤(c:Int):=by omega
  have hl:(((x::R'):WL).length:Int)=(R'.length:Int)+1:=by simp
  have e1:=fun v=>setCell_eq_setRow w rp 0 _ _ _ v h1
  have H:∀ a',(R'≠[]→a'=some ⟨g,pre.length+1,none⟩)→RdS rp R' bad (w.setRow rp #[.slice a' R'.length (c-1),.bool bad]):=fun a' ha=>⟨g,pre++[x],a',c-1,setRow_heap _ _ _ _ _ _ h1,by simp at h2;omega,fun hne=>by rw [ha hne];simp,by
   rw [setRow_other _ _ _ _ h5,h4]
   simp,h5⟩
  replace H:=mK H;replace h1:=mK h1;replace h2:=mK h2;replace e1:=mK e1;clear h4 h3;go_enter Tryz.func34,Tryz.ntmps34;go_wp2_with fail
  ·rename_i hc1
   have hR:R'=[]:=by
    have:=h2.out;simp at this;exact List.eq_nil_of_length_eq_zero (by omega)
   go_ret;rw [show ∀ v,w.setCell ⟨rp,0,none⟩ v=_ from e1.out];refine ⟨rfl,?_,Aq w rp _⟩;have:=H.out (some ⟨g,pre.length,none⟩) (fun hne=>absurd hR hne);rw [show c-1=0 by omega] at this;simpa using this
  ·go_ret
   rw [show ∀ v,w.setCell ⟨rp,0,none⟩ v=_ from e1.out];refine ⟨rfl,?_,Aq w rp _⟩;have:=H.out _ (fun _=>rfl);simpa using this
theorem Aae (s:ByteArray)(w:World)(hs:s.size≤9223372036854775807) :
  Calls Tryz.prog 249 #[.string s,.string ⟨#[48,49,50,51,52,53,54,55,56,57]⟩] w fun e w'=>e=.returned (.string ⟨(Lib.trimS s.data.toList digs).toArray⟩)∧Ext w w':=
 Any.strings_Trim_laid Tryz.lays160 (by kernel_rfl) s ⟨#[48,49,50,51,52,53,54,55,56,57]⟩ w hs (by decide) (ascii_of_all (by decide))
def Ae8 (w:World)(o:Option Int)(e:Ending)(w':World):Prop:=
 ∃ v b x,e=.returned (.tuple #[v,.bool b])∧(o=some x∧b=true∨o=none∧b=false∧x=0)∧IntO w' w.heap.size v x∧Ext w w'
theorem Qd (w:World)(b:Nat):IntO w b (.agg #[.bool false,.slice none 0 0]) 0:=⟨.slice none 0 0,rfl,by show MagO _ _ _ (lim 0);rw [Az];exact Fh _ _⟩
theorem Ng {D:ByteArray}{l:List UInt8}(h:D.data.toList=l):D.toList=l∧D.size=l.length:=by
 refine ⟨by rw [ByteArray.toList_eq,h],?_⟩;rw [←h];exact (Array.length_toList).symm
theorem Cm {l:List UInt8}{b:Bool}(h:decide (l=[])=b):l.isEmpty=b∧(l==[])=b∧(l != []) = !b:=by
 subst h;cases l with
 | nil=>exact ⟨rfl,rfl,rfl⟩
 | cons a r=>exact ⟨rfl,rfl,rfl⟩
theorem Ur {D:ByteArray}{l:List UInt8}(h:D.data.toList=l)(hs:0<D.size):l.head? = some D[0]:=by
 subst h;obtain ⟨⟨l⟩⟩:=D;cases l with
 | nil=>simp [ByteArray.size] at hs
 | cons a r=>rfl
theorem Sq {l:List UInt8}{p:Nat}(h:Lib.decFrom 0 l=some p)(hl:l≠[]):Lib.atoi l=some (p:Int):=by
 cases l with
 | nil=>exact absurd rfl hl
 | cons b r=>
  obtain ⟨d,hd⟩:=Lib.digit_of_decFrom (b::r) 0 p h 0 b rfl
  have h45:(b==45)=false:=by
   cases hb:b==45 with
   | false=>rfl
   | true=>rw [eq_of_beq hb] at hd;cases hd
  have h43:(b==43)=false:=by
   cases hb:b==43 with
   | false=>rfl
   | true=>rw [eq_of_beq hb] at hd;cases hd
  unfold Lib.atoi Lib.decNat;simp [h45,h43,h]
theorem Ab5 (C:ByteArray)(n:Nat):(C.extract n C.size).data.toList=C.data.toList.drop n:=by
 have h:(C.extract n C.size).data.toList=(C.data.toList.drop n).take (C.size-n):=by simp [List.extract]
 rw [h];exact List.take_of_length_le (by rw [List.length_drop,Array.length_toList];exact nR _)
def szS:Value→Nat
 | .string D=>D.size
 | _=>0
def RdI (ds:List UInt8)(w1:World)(v4 v6:Value)(wr:World):Prop:=
 ∃ (j m:Nat) (C:ByteArray),j≤ds.length∧v4=.string C∧C.data.toList=ds.drop j∧Lib.decFrom 0 (ds.take j)=some m∧(j=0∨(ds.length-j)%9=0)∧(lim m).length≤j∧MagO wr w1.heap.size v6 (lim m)∧Ext w1 wr
def MuI (w1:World)(q:List Nat)(p:Nat)(a:Option Addr)(c:Nat)(v62 v10:Value)(wr:World):Prop:=
 ∃ (k cc:Nat) (cur:List Nat),k≤q.length∧v62=.int .i64 k∧v10=.int .u64 cc∧MuQ q p cur k cc∧wr.ownsRow w1.heap.size 150 1 (.slice a q.length c) q.length (limV cur)∧Ext w1 wr
theorem Xt (s:ByteArray)(w w1:World)(hE1:Hid (Ext w w1))(z1:Hid (w1.heap[w.heap.size]? = some (.cells #[.bool false,.slice none 0 0] 26 (0,0))))(hsz1:w1.heap.size=w.heap.size+1)
  (hw1:Hid (w1=w.alloc (.cells #[.bool false,.slice none 0 0] 26))) (T:ByteArray)
  (KP:Hid (∀ W,Calls Tryz.prog 248 #[.string s,.string ⟨#[45]⟩] W fun e w'=>e=.returned (.tuple #[.string ⟨#[48]⟩,.bool false])∧w'=W))
  (KT:Hid (∀ W,Calls Tryz.prog 249 #[.string ⟨#[48]⟩,.string ⟨#[48,49,50,51,52,53,54,55,56,57]⟩] W fun e w'=>e=.returned (.string T)∧Ext W w'))
  (_t1:T.toList.isEmpty=true) (_t2:(T.toList==[])=true) (_t3:(T.toList != []) = !true) :
  Calls Tryz.prog 197 #[.string s] w (Ae8 w (some 0)):=by
 have KA:=mK (fun W=>Tryz.strconv_Atoi ((⟨#[48]⟩:ByteArray).extract 0 1) 0 (by decide) (by decide) W);obtain ⟨i0,hi,hz0,hz1,hz2⟩:=info_parts Im;have x1:((⟨#[48]⟩:ByteArray).extract 1 1)=⟨#[]⟩:=by decide
 have x2:((⟨#[48]⟩:ByteArray).toList != [])=true:=by rw [ByteArray.toList_eq];decide
 have x3:((⟨#[48]⟩:ByteArray).size:Int)=1:=rfl;have y1:((⟨#[48]⟩:ByteArray).toList==[])=false:=by rw [ByteArray.toList_eq];decide
 have y2:((⟨#[48]⟩:ByteArray).toList.isEmpty)=false:=by rw [ByteArray.toList_eq];decide
 have hno:=World.ownsRow_nil (w:=w) w1.heap.size 150 1;go_enter Tryz.func197,Tryz.ntmps197;have tok:Tok 0:=.mk _
 go_wp2_with (first
  | (replace tok:Tok 1:=nxT 0 tok;go_at_call 248;rw [←hw1.out];refine (KP.out _).mono ?_;rintro e w2 ⟨rfl,hw2⟩;rw [hw2];clear hw2)
  | (replace tok:Tok 2:=nxT 1 tok;go_at_call 249;refine (KT.out w1).mono ?_;rintro e w3 ⟨rfl,hx⟩;replace hx:=mK hx;(have z3:=mK (hx.out.blk z1.out)))
  | (replace tok:Tok 3:=nxT 2 tok;refine wpList_store_row rfl 26 (.tmp 2) (.tmp 37) rfl w.heap.size #[.bool false,.slice none 0 0] rfl rfl 26 _ z3.out (by kernel_rfl) rfl (by kernel_rfl) ?_))
 clear KP KT tok;refine wp_loop_rounds 2 ?_;rw [rounds_succ];have tok:Tok 20:=.mk _
 go_wp2_with (first
  | (replace tok:Tok 21:=nxT 20 tok;go_at_call 86;refine (KA.out _).mono ?_;rintro e w5 ⟨rfl,t,hw⟩;(have hE5:Ext w3 w5:=by rw [hw];exact Joins.below_bytesWorld _ _ _ _ (nR _));replace hE5:=mK (hx.out.trans hE5);clear hw))
 refine wp_loop_rounds 1 ?_;rw [rounds_succ];have z5:=mK (hE5.out.blk z1.out);have hno5:=mK (World.ownsRow_nil (w:=w5) w1.heap.size 150 1);have c0:(IntKind.u32.wrap 0)=0:=by decide
 clear tok;have tok:Tok 30:=.mk _
 go_wp2_with (first
  | (replace tok:Tok 31:=nxT 30 tok;at_builtin;refine wpList_append_own_at _ ?ya ?yb ?yc 24 ?yd w1.heap.size 150 i0 (.int .u32 0) 1 4 Tryz.underlying24 hi hz0 hz1 hz2 ?ye ?yf (.slice none 0 0) 0 [] ?yh (hno5.out.alloc (.cells #[.int .u32 0] 150)) ⟨w5.heap.size,0,none⟩ 1 1 [.int .u32 0] ?yi ?yj ?zc1 ?zc2 ?zc3 ?zc4 ?zc5 ?_;(case ya=>rfl);(case yd=>rfl);(case ye=>rfl);(case yf=>decide);(case yh=>rfl);(case yi=>rfl);(case yj=>rfl);(case zc1=>intro j u hj;rcases j with _|j;(simp at hj;subst hj;simp [Addr.add]);(simp at hj));(case zc2=>intro u hu;simp at hu;subst hu;rfl);(case zc3=>unfold maxLen;omega);(case zc4=>omega);(case zc5=>have:=hE5.out.size;rw [World.size_alloc];omega);intro v7 w7 hown7 hgrow7 _ _;(have hE7:=mK ((hE5.out.al (.cells #[.int .u32 0] 150)).gr hgrow7 (fun k e=>by cases e)));(have hown:w7.ownsRow w1.heap.size 150 1 v7 ([0]:List Nat).length (limV [0]):=hown7);(obtain ⟨a7,c7,rfl,hc7,hr7⟩:=Dw hown);(have TR:=Ll a7 [0] c7 w7 (fun x hx=>by rw [List.mem_singleton.1 hx];decide) (by decide) hc7 hr7);(have hv0:lim (val [0])=[]:=by rw [show val [0]=0 from rfl,Az]);rw [hv0] at TR;(have hM:=MagO.lim hown (fun x hx=>by rw [List.mem_singleton.1 hx];decide));rw [hv0] at hM;(have KS:=Iv false w1.heap.size (.slice a7 ([]:List Nat).length c7) [] w7 (fun x hx=>by cases hx) (by decide) hM);replace KS:=mK KS;replace TR:=mK TR;clear hgrow7 hown7 hr7 hown hM hv0)
  | (replace tok:Tok 32:=nxT 31 tok;go_at_call 182;refine TR.out.mono ?_;rintro e w8 ⟨rfl,hw8⟩;rw [←hw8];clear hw8))
 rw [rounds_succ]
 go_wp2_with (first
  | (replace tok:Tok 33:=nxT 32 tok;go_at_call 180;refine KS.out.mono ?_;rintro e w9 ⟨v,rfl,hv,hx9⟩;(obtain ⟨vb,va,vn,vc,rfl⟩:=hv.r.shape);(have hE9:=mK (hE7.out.trans hx9));(have z9:=mK (hE9.out.blk z1.out));replace hv:=mK hv;clear hx9)
  | (replace tok:Tok 34:=nxT 33 tok;refine wpList_store_row rfl 26 (.tmp 2) (.tmp 90) rfl w.heap.size #[.bool vb,.slice va vn vc] rfl rfl 26 _ z9.out (by kernel_rfl) rfl (by kernel_rfl) ?_))
 refine bodyPost_ret (Aj rfl _ _ w.heap.size 26 #[.bool vb,.slice va vn vc] _ _ rfl rfl (setRow_heap _ _ _ _ _ _ z9.out) Tryz.underlying26 rfl (by kernel_rfl)) rfl ?_;exact ⟨_,_,0,rfl,.inl ⟨rfl,rfl⟩,(hv.out.row (by omega) _).mono (by omega),(hE1.out.trans hE9.out).row (nR _) _⟩
theorem Gi (s:ByteArray)(w:World)(hs:s.size≤65536):Calls Tryz.prog 197 #[.string s] w (Ae8 w (Bz s.data.toList)):=by
 obtain ⟨w1,hw1⟩:=nmE (w.alloc (.cells #[.bool false,.slice none 0 0] 26));have hE1:=mK (show Ext w w1 by rw [hw1];exact (xR w).al _);have z1:=mK (aL10 hw1);have hsz1:=aLs1 hw1;obtain ⟨ds,hds⟩:=nmE (Dj s.data.toList);obtain ⟨NG,hNG⟩:=nmE (negI s.data.toList);obtain ⟨D,hD⟩:∃ D:ByteArray,D=⟨ds.toArray⟩:=⟨_,rfl⟩
 have hDl:D.data.toList=ds:=by rw [hD]
 have hlen:ds.length≤65536:=by
  have e:s.size=s.data.toList.length:=(Array.length_toList).symm;rw [hds];unfold Dj;split
  ·rw [List.length_tail];omega
  ·omega
 obtain ⟨dl,dsz⟩:=Ng hDl;have KP:=fun W=>Tryz.strings_CutPrefix s ⟨#[45]⟩ W;have e1:Lib.trimPrefix s.data.toList (⟨#[45]⟩:ByteArray).data.toList=ds:=(Gp _).1.trans hds.symm;have e2:Lib.hasPrefix s.data.toList (⟨#[45]⟩:ByteArray).data.toList=NG:=(Gp _).2.trans hNG.symm;simp only [e1,e2,←hD] at KP;obtain ⟨T,hT⟩:∃ T:ByteArray,T=⟨(Lib.trimS ds digs).toArray⟩:=⟨_,rfl⟩
 have KT:=fun W=>Aae D W (by omega);simp only [hDl,←hT] at KT;have hTl:T.toList=Lib.trimS ds digs:=by rw [ByteArray.toList_eq,hT]
 have hR:Bz s.data.toList=if (decide (ds=[])||(decide (ds.head? = some 48)&&(decide (1<ds.length)||NG)))=true then none else (Lib.decFrom 0 ds).map fun m=>sg NG m:=by
  rw [hds,hNG];rfl
 rw [hR];clear e1 e2 hD hT hR hds hNG;replace KP:=mK KP;replace KT:=mK KT;replace hw1:=mK hw1;by_cases h0:ds=[]
 ·obtain ⟨f1,f2,f3⟩:=Cm (l:=D.toList) (b:=true) (by rw [dl,h0];rfl)
  rw [if_pos (by simp [h0])];clear dl dsz KT hTl;go_enter Tryz.func197,Tryz.ntmps197;have tok:Tok 0:=.mk _
  go_wp2_with (first
   | (replace tok:Tok 1:=nxT 0 tok;go_at_call 248;rw [←hw1.out];refine (KP.out _).mono ?_;rintro e w2 ⟨rfl,hw2⟩;rw [hw2];clear hw2)
   | (replace tok:Tok 2:=nxT 1 tok;refine wpList_store_row rfl 26 (.tmp 2) (.tmp 37) rfl w.heap.size #[.bool false,.slice none 0 0] rfl rfl 26 _ z1.out (by kernel_rfl) rfl (by kernel_rfl) ?_))
  refine bodyPost_ret (Aj rfl _ _ w.heap.size 26 #[.bool false,.slice none 0 0] _ _ rfl rfl (setRow_heap _ _ _ _ _ _ z1.out) Tryz.underlying26 rfl (by kernel_rfl)) rfl ?_;exact ⟨_,_,0,rfl,.inr ⟨rfl,rfl,rfl⟩,Qd _ _,hE1.out.row (nR _) _⟩
 ·obtain ⟨f1,f2,f3⟩:=Cm (l:=D.toList) (b:=false) (by rw [dl];exact decide_eq_false h0)
  have k1:0<D.size:=by rw [dsz];exact List.length_pos_iff.2 h0
  have hh:=Ur hDl k1;rw [hh];replace hDl:=mK hDl;by_cases h48:D[0]=48
  ·have g1:(D[0].toNat==48)=true:=by rw [h48];rfl
   have g2:((D[0].toNat:Int)==48)=true:=by rw [h48];rfl
   by_cases h1:1<ds.length
   ·have k3:(1:Int)<D.size:=by omega
    rw [if_pos (by simp [h48,h1])];clear dl KT hTl hh;go_enter Tryz.func197,Tryz.ntmps197;have tok:Tok 0:=.mk _
    go_wp2_with (first
     | (replace tok:Tok 1:=nxT 0 tok;go_at_call 248;rw [←hw1.out];refine (KP.out _).mono ?_;rintro e w2 ⟨rfl,hw2⟩;rw [hw2];clear hw2)
     | (replace tok:Tok 2:=nxT 1 tok;refine wpList_store_row rfl 26 (.tmp 2) (.tmp 37) rfl w.heap.size #[.bool false,.slice none 0 0] rfl rfl 26 _ z1.out (by kernel_rfl) rfl (by kernel_rfl) ?_))
    refine bodyPost_ret (Aj rfl _ _ w.heap.size 26 #[.bool false,.slice none 0 0] _ _ rfl rfl (setRow_heap _ _ _ _ _ _ z1.out) Tryz.underlying26 rfl (by kernel_rfl)) rfl ?_;exact ⟨_,_,0,rfl,.inr ⟨rfl,rfl,rfl⟩,Qd _ _,hE1.out.row (nR _) _⟩
   ·have k3:¬(1:Int)<D.size:=by omega
    cases NG with
    | true=>
     rw [if_pos (by simp [h48])];clear dl KT hTl hh;go_enter Tryz.func197,Tryz.ntmps197;have tok:Tok 0:=.mk _
     go_wp2_with (first
      | (replace tok:Tok 1:=nxT 0 tok;go_at_call 248;rw [←hw1.out];refine (KP.out _).mono ?_;rintro e w2 ⟨rfl,hw2⟩;rw [hw2];clear hw2)
      | (replace tok:Tok 2:=nxT 1 tok;refine wpList_store_row rfl 26 (.tmp 2) (.tmp 37) rfl w.heap.size #[.bool false,.slice none 0 0] rfl rfl 26 _ z1.out (by kernel_rfl) rfl (by kernel_rfl) ?_))
     refine bodyPost_ret (Aj rfl _ _ w.heap.size 26 #[.bool false,.slice none 0 0] _ _ rfl rfl (setRow_heap _ _ _ _ _ _ z1.out) Tryz.underlying26 rfl (by kernel_rfl)) rfl ?_;exact ⟨_,_,0,rfl,.inr ⟨rfl,rfl,rfl⟩,Qd _ _,hE1.out.row (nR _) _⟩
    | false=>
     rw [if_neg (by simp [h0,h1])];cases hN:Lib.decFrom 0 ds with
     | none=>
      obtain ⟨t1,t2,t3⟩:=Cm (l:=T.toList) (b:=false) (by
       rw [hTl];refine decide_eq_false fun e=>?_;have:=(Hl ds).1 e;rw [hN] at this
       cases this)
      clear dl hTl hh;go_enter Tryz.func197,Tryz.ntmps197;have tok:Tok 0:=.mk _
      go_wp2_with (first
       | (replace tok:Tok 1:=nxT 0 tok;go_at_call 248;rw [←hw1.out];refine (KP.out _).mono ?_;rintro e w2 ⟨rfl,hw2⟩;rw [hw2];clear hw2)
       | (replace tok:Tok 2:=nxT 1 tok;go_at_call 249;refine (KT.out w1).mono ?_;rintro e w3 ⟨rfl,hx⟩;replace hx:=mK hx;(have z3:=mK (hx.out.blk z1.out)))
       | (replace tok:Tok 3:=nxT 2 tok;refine wpList_store_row rfl 26 (.tmp 2) (.tmp 37) rfl w.heap.size #[.bool false,.slice none 0 0] rfl rfl 26 _ z3.out (by kernel_rfl) rfl (by kernel_rfl) ?_))
      refine bodyPost_ret (Aj rfl _ _ w.heap.size 26 #[.bool false,.slice none 0 0] _ _ rfl rfl (setRow_heap _ _ _ _ _ _ z3.out) Tryz.underlying26 rfl (by kernel_rfl)) rfl ?_;exact ⟨_,_,0,rfl,.inr ⟨rfl,rfl,rfl⟩,Qd _ _,(hE1.out.trans hx.out).row (nR _) _⟩
     | some N=>
      obtain ⟨t1,t2,t3⟩:=Cm (l:=T.toList) (b:=true) (by
       rw [hTl]
       exact decide_eq_true ((Hl ds).2 (by rw [hN];rfl)))
      have hl1:ds.length=1:=by have:=List.length_pos_iff.2 h0;omega
      obtain rfl:ds=[48]:=by
       cases hds:ds with
       | nil=>exact absurd hds h0
       | cons a r=>
        rw [hds] at hh hl1;have:r=[]:=List.eq_nil_of_length_eq_zero (by simpa using hl1);simp only [List.head?_cons,Option.some.injEq] at hh;rw [this,hh,h48]
      obtain rfl:D=⟨#[48]⟩:=by
       apply ByteArray.ext;apply Array.ext';exact hDl.out
      obtain rfl:N=0:=by
       have:Lib.decFrom 0 [48]=some 0:=by decide
       rw [this] at hN;exact (Option.some.inj hN).symm
      clear dl hTl hh hN g1 g2 h48 k1 f1 f2 f3 h1 k3 hl1 hlen dsz h0 hDl;exact Xt s w w1 hE1 z1 hsz1 hw1 T KP KT t1 t2 t3
  ·have g1:(D[0].toNat==48)=false:=by
    cases hb:D[0].toNat==48 with
    | false=>rfl
    | true=>exact absurd (UInt8.toNat_inj.1 (show D[0].toNat=(48:UInt8).toNat from eq_of_beq hb)) h48
   have g2:((D[0].toNat:Int)==48)=false:=by
    cases hb:(D[0].toNat:Int)==48 with
    | false=>rfl
    | true=>have:=eq_of_beq hb;exact absurd (UInt8.toNat_inj.1 (show D[0].toNat=(48:UInt8).toNat from by rw [show (48:UInt8).toNat=48 from rfl];omega)) h48
   rw [if_neg (by simp [h0,h48])];cases hN:Lib.decFrom 0 ds with
   | none=>
    obtain ⟨t1,t2,t3⟩:=Cm (l:=T.toList) (b:=false) (by
     rw [hTl];refine decide_eq_false fun e=>?_;have:=(Hl ds).1 e;rw [hN] at this
     cases this)
    clear dl hTl hh;go_enter Tryz.func197,Tryz.ntmps197;have tok:Tok 0:=.mk _
    go_wp2_with (first
     | (replace tok:Tok 1:=nxT 0 tok;go_at_call 248;rw [←hw1.out];refine (KP.out _).mono ?_;rintro e w2 ⟨rfl,hw2⟩;rw [hw2];clear hw2)
     | (replace tok:Tok 2:=nxT 1 tok;go_at_call 249;refine (KT.out w1).mono ?_;rintro e w3 ⟨rfl,hx⟩;replace hx:=mK hx;(have z3:=mK (hx.out.blk z1.out)))
     | (replace tok:Tok 3:=nxT 2 tok;refine wpList_store_row rfl 26 (.tmp 2) (.tmp 37) rfl w.heap.size #[.bool false,.slice none 0 0] rfl rfl 26 _ z3.out (by kernel_rfl) rfl (by kernel_rfl) ?_))
    refine bodyPost_ret (Aj rfl _ _ w.heap.size 26 #[.bool false,.slice none 0 0] _ _ rfl rfl (setRow_heap _ _ _ _ _ _ z3.out) Tryz.underlying26 rfl (by kernel_rfl)) rfl ?_;exact ⟨_,_,0,rfl,.inr ⟨rfl,rfl,rfl⟩,Qd _ _,(hE1.out.trans hx.out).row (nR _) _⟩
   | some N=>
    obtain ⟨t1,t2,t3⟩:=Cm (l:=T.toList) (b:=true) (by
     rw [hTl]
     exact decide_eq_true ((Hl ds).2 (by rw [hN];rfl)))
    clear dl hTl hh;replace hN:=mK hN;go_enter Tryz.func197,Tryz.ntmps197;have tok:Tok 0:=.mk _
    go_wp2_with (first
     | (replace tok:Tok 1:=nxT 0 tok;go_at_call 248;rw [←hw1.out];refine (KP.out _).mono ?_;rintro e w2 ⟨rfl,hw2⟩;rw [hw2];clear hw2)
     | (replace tok:Tok 2:=nxT 1 tok;go_at_call 249;refine (KT.out w1).mono ?_;rintro e w3 ⟨rfl,hx⟩;replace hx:=mK hx;(have z3:=mK (hx.out.blk z1.out)))
     | (replace tok:Tok 3:=nxT 2 tok;refine wpList_store_row rfl 26 (.tmp 2) (.tmp 37) rfl w.heap.size #[.bool false,.slice none 0 0] rfl rfl 26 _ z3.out (by kernel_rfl) rfl (by kernel_rfl) ?_))
    have st:Hid (RdI ds w1 (.string D) (.slice none 0 0) w3):=⟨0,0,D,Nat.zero_le _,rfl,hDl.out,rfl,.inl rfl,by rw [Az];exact nR _,by rw [Az];exact Fh _ _,hx.out⟩
    clear tok KP KT hx z3;go_loopw [4,6] (fun v4 v6 wr=>RdI ds w1 v4 v6 wr) (fun v4 _ _=>szS v4)
    case atStart=>exact st.out
    case round=>
     clear st;obtain ⟨j,m,C,hj,rfl,hC,hm,h9,hll,hM,hEr⟩:=hrel;obtain ⟨w4,rfl⟩:=nmE (wr:World);obtain ⟨cl,cs⟩:=Ng hC;rw [List.length_drop] at cs;by_cases hd:j=ds.length
     ·obtain ⟨f1,f2,f3⟩:=Cm (l:=C.toList) (b:=true) (by rw [cl,hd,List.drop_length];rfl)
      have hmN:m=N:=by
       rw [hd,List.take_length,hN.out] at hm;exact (Option.some.inj hm).symm
      have KS:=Iv NG w1.heap.size u6 (lim m) w4 (By m) (by omega) hM;rw [Bn,hmN] at KS;replace KS:=mK KS;replace hEr:=mK hEr;clear hM hC cl cs hm h9 hll hd hj;have tok:Tok 10:=.mk _
      go_wp2_with (first
       | (replace tok:Tok 11:=nxT 10 tok;go_at_call 180;refine KS.out.mono ?_;rintro e w5 ⟨v,rfl,hv,hx⟩;(obtain ⟨vb,va,vn,vc,rfl⟩:=hv.r.shape);(have hE5:=mK (hEr.out.trans hx));(have z5:=mK (hE5.out.blk z1.out));replace hv:=mK hv;clear hx)
       | (replace tok:Tok 12:=nxT 11 tok;refine wpList_store_row rfl 26 (.tmp 2) (.tmp 90) rfl w.heap.size #[.bool vb,.slice va vn vc] rfl rfl 26 _ z5.out (by kernel_rfl) rfl (by kernel_rfl) ?_))
      refine bodyPost_ret (Aj rfl _ _ w.heap.size 26 #[.bool vb,.slice va vn vc] _ _ rfl rfl (setRow_heap _ _ _ _ _ _ z5.out) Tryz.underlying26 rfl (by kernel_rfl)) rfl ?_;exact ⟨_,_,sg NG N,rfl,.inl ⟨rfl,rfl⟩,(hv.out.row (by omega) _).mono (by omega),(hE1.out.trans hE5.out).row (nR _) _⟩
     ·obtain ⟨f1,f2,f3⟩:=Cm (l:=C.toList) (b:=false) (by
       rw [cl];refine decide_eq_false fun e=>?_;have:=congrArg List.length e;rw [List.length_drop,List.length_nil] at this
       omega)
      obtain ⟨a,c,rfl,hcap,-⟩:=hM.r;obtain ⟨i0,hi,hz0,hz1,hz2⟩:=info_parts Im;obtain ⟨n,hn⟩:=nmE ((ds.length-j-1)%9+1);have hn9:n≤9:=by omega
      have hn0:0<n:=by omega
      have hnj:j+n≤ds.length:=by omega
      obtain ⟨m',p,hm',hp,hplt,hm2⟩:=My ds N j n hN.out hnj;obtain rfl:m'=m:=by rw [hm'] at hm;exact Option.some.inj hm
      have hp9:p<1000000000:=Nat.lt_of_lt_of_le hplt (Nat.pow_le_pow_right (by omega) hn9:10 ^ n≤10 ^ 9)
      have hmm:m'*10 ^ n=m'*1000000000:=by
       rcases h9 with h9|h9
       ·subst h9
        rw [List.take_zero] at hm;simp only [Lib.decFrom,Option.some.injEq] at hm;rw [←hm,Nat.zero_mul,Nat.zero_mul]
       ·rw [show n=9 by omega]
      have h9':(ds.length-(j+n))%9=0:=by omega
      rw [hmm] at hm2
      have hPl:(C.extract 0 n).data.toList=(ds.drop j).take n:=by
       rw [←hC];simp
      have hQl:(C.extract n C.size).data.toList=ds.drop (j+n):=by
       rw [←List.drop_drop,←hC,Ab5]
      have KA:=mK (fun W=>Tryz.strconv_Atoi (C.extract 0 n) p (by rw [ByteArray.size_extract];omega) (Sq (by rw [hPl];exact hp) (by rw [hPl];intro e;have:=congrArg List.length e;rw [List.length_take,List.length_drop,List.length_nil] at this;omega)) W);have hcs:(C.size:Int)=(ds.length:Int)-j:=by omega
      have hrem:Int.tmod ((C.size:Int)-1) 9+1=(n:Int):=by rw [Int.tmod_eq_emod_of_nonneg (by omega)];omega
      have hrem':Int.tmod ((C.size:Int)-1) 9=(n:Int)-1:=by omega
      have hnC:n≤C.size:=by omega
      have hX:wrap64 ((wrap64 ((C.size:Int)-1)).tmod 9+1)=(n:Int):=by
       have w1':wrap64 ((C.size:Int)-1)=(C.size:Int)-1:=by unfold wrap64;omega
       rw [w1',hrem];unfold wrap64;omega
      have hnC':(n:Int)≤(C.size:Int):=by omega
      replace hM:=mK hM;replace hEr:=mK hEr;replace hPl:=mK hPl;replace hQl:=mK hQl;replace hm2:=mK hm2;clear hC cl cs hm hm' hp hplt hmm h9;replace hcap:=mK hcap;replace hcs:=mK hcs;replace hn:=mK hn;have tok:Tok 20:=.mk _
      go_wp2_with (first
       | (replace tok:Tok 21:=nxT 20 tok;go_at_call 86;refine (KA.out _).mono ?_;rintro e w5 ⟨rfl,t,hw⟩;(have hx:Ext w4 w5:=by rw [hw];exact Joins.below_bytesWorld _ _ _ _ (nR _));(have hE5:=mK (hEr.out.trans hx));(have hM5:=mK (hM.out.ext hx));clear hx hw))
      obtain ⟨q,hq⟩:=nmE (lim m');have okq:OkL q:=by rw [hq];exact By _
      have hvq:val q=m':=by rw [hq,Bn]
      rw [←hq] at hM5 hll ⊢;have st:Hid (MuI w1 q p a c (.int .i64 0) (.int .u64 p) w5):=⟨0,p,q,Nat.zero_le _,rfl,rfl,Yp okq (by omega),hM5.out,hE5.out⟩
      replace hq:=mK hq;replace hvq:=mK hvq;clear tok KA hM hM5 hE5 hEr;go_loopw [62,10] (fun v62 v10 wr=>MuI w1 q p a c v62 v10 wr) (fun v62 _ _=>q.length-(intOf v62).toNat)
      case atStart=>exact st.out
      case round=>
       clear st;obtain ⟨k,cc,cur,hk,rfl,rfl,hmu,ho,hEq⟩:=hrel;obtain ⟨w6,rfl⟩:=nmE (wr:World);by_cases hlt:k<q.length
       ·have hlt':(k:Int)<(q.length:Int):=by omega
        obtain ⟨g,rfl⟩:∃ g,a=some ⟨g,0,none⟩:=by
         rcases ho.2 with ⟨e,h0⟩|⟨g,cap,cur',e,_⟩
         ·simp only [Value.slice.injEq] at e
          omega
         ·simp only [Value.slice.injEq] at e
          exact ⟨g,e.1⟩
        have hcl:cur.length=q.length:=hmu.1
        have hx:cur.getD k 0=q.getD k 0:=by
         have:=congrArg (fun l=>l.getD 0 0) hmu.2.2.2.1;simpa [List.getD_eq_getElem?_getD,List.getElem?_drop] using this
        have hxl:=As okq k;have hcc:=hmu.2.2.1
        have hcell:w6.cell? ⟨g,k,none⟩=some (.int .u32 (q.getD k 0:Nat)):=by
         rw [ho.cellAt k (by omega),←hx];have:k<cur.length:=by omega
         simp [limV,this]
        have hfz:=ho.frozenAt k;have hnext:=mK (Abj hmu hlt okq);generalize q.getD k 0=x at *;obtain ⟨Y,hY⟩:=nmE ((cc+x*1000000000)%4294967296);obtain ⟨Z,hZ⟩:=nmE ((cc+x*1000000000)/4294967296);rw [←hY,←hZ] at hnext;obtain ⟨hs1,hs2⟩:=ho.stored k (.int .u32 (Y:Nat));rw [Dm] at hs1;have hgl:=(ho.lt g rfl).1;have hS:(cc:Int)+(x:Int)*1000000000<18446744073709551616:=by omega
        replace hs1:=mK hs1;replace hs2:=mK hs2;replace ho:=mK ho;replace hEq:=mK hEq;replace hmu:=mK hmu;replace hY:=mK hY;replace hZ:=mK hZ;go_wp2_with fail;have e1:((cc:Int)+(x:Int)*1000000000)/4294967296=((Z:Nat):Int):=by have:=hZ.out;omega
        have e2:((cc:Int)+(x:Int)*1000000000)%4294967296=((Y:Nat):Int):=by have:=hY.out;omega
        rw [e1,e2];refine ⟨⟨k+1,Z,cur.set k Y,by omega,by go_num,rfl,hnext.out,hs1.out,hEq.out.st hgl _⟩,by simp [intOf];omega⟩
       ·have hke:k=q.length:=by omega
        subst hke;obtain ⟨hok2,hval2⟩:=Adn hmu;have hcc:=hmu.2.2.1;have hcl:cur.length=q.length:=hmu.1;have hcm:(cc:Int)%4294967296=cc:=by omega
        replace hok2:=mK hok2;replace hval2:=mK hval2;replace hEq:=mK hEq;replace ho:=mK ho;clear hmu hlt hk;have tok:Tok 30:=.mk _
        go_wp2_with (first
         | (replace tok:Tok 31:=nxT 30 tok;at_builtin;refine wpList_append_own_at _ ?ya ?yb ?yc 24 ?yd w1.heap.size 150 i0 (.int .u32 0) 1 4 Tryz.underlying24 hi hz0 hz1 hz2 ?ye ?yf (.slice a q.length c) q.length _ ?yh (ho.out.alloc (.cells #[.int .u32 (cc:Int)] 150)) ⟨w6.heap.size,0,none⟩ 1 1 [.int .u32 (cc:Int)] ?yi ?yj ?zc1 ?zc2 ?zc3 ?zc4 ?zc5 ?_;(case ya=>rfl);(case yd=>rfl);(case ye=>rfl);(case yf=>decide);(case yh=>rfl);(case yi=>rfl);(case yj=>rfl);(case zc1=>intro j u hj;rcases j with _|j;(simp at hj;subst hj;simp [Addr.add]);(simp at hj));(case zc2=>intro u hu;simp at hu;subst hu;rfl);(case zc3=>unfold maxLen;omega);(case zc4=>omega);(case zc5=>have:=hEq.out.size;rw [World.size_alloc];omega);intro v7 w7 hown7 hgrow7 _ _;(have hE7:=mK ((hEq.out.al _).gr hgrow7 (fun k e=>(ho.out.lt k e).1)));(have hown:=(show w7.ownsRow w1.heap.size 150 1 v7 (cur++[cc]).length (limV (cur++[cc])) by rw [List.length_append,hcl,show limV (cur++[cc])=limV cur++[.int .u32 (cc:Int)] by simp [limV]];exact hown7));(obtain ⟨a7,c7,rfl,hc7,hr7⟩:=Dw hown);(have TR:=Ll a7 (cur++[cc]) c7 w7 hok2.out (by rw [List.length_append,List.length_singleton];omega) hc7 hr7);rw [show (cur++[cc]).length=q.length+1 by rw [List.length_append,hcl];rfl] at TR;replace TR:=mK TR;replace hown:=mK hown;clear hgrow7 hown7 hr7)
         | (replace tok:Tok 32:=nxT 31 tok;go_at_call 182;refine TR.out.mono ?_;rintro e w8 ⟨rfl,hw8⟩;rw [←hw8];clear hw8))
        have hfin:RdI ds w1 (.string (C.extract n C.size)) (.slice a7 (lim (val (cur++[cc]))).length c7) w7:=by
         refine ⟨j+n,m'*1000000000+p,_,hnj,rfl,hQl.out,hm2.out,.inr h9',?_,?_,hE7.out⟩
         ·rw [←hvq.out,←hval2.out]
          refine nT (He hok2.out) ?_;rw [List.length_append,List.length_singleton];omega
         ·have:=MagO.lim hown.out hok2.out
          rw [hval2.out,hvq.out] at this;rw [hval2.out,hvq.out];exact this
        refine ⟨hfin,?_⟩;show (C.extract n C.size).size<C.size
        rw [ByteArray.size_extract];omega
def Max0 (w:World):Prop:=∃ m:Int,w.cell? ⟨1,0,none⟩=some (.int .i64 m)
theorem Max0.ext {w w':World}(h:Max0 w)(e:Ext w w'):Max0 w':=by
 obtain ⟨m,hm⟩:=h;exact ⟨m,e.cell hm⟩
/-! The library's Cut at one byte. -/
theorem Aeg (c:UInt8)(s:ByteArray)(W:World)(hs:s.size<4294967281)(hm:Max0 W){x y:List UInt8}(h:cutL c s.data.toList=some (x,y)) :
  Calls Tryz.prog 196 #[.string s,.string ⟨#[c]⟩] W fun e w'=>e=.returned (.tuple #[.string ⟨x.toArray⟩,.string ⟨y.toArray⟩,.bool true])∧Ext W w':=by
 obtain ⟨m,hm⟩:=hm;refine (Tryz.strings_Cut s ⟨#[c]⟩ m W hs hm).mono ?_;rintro e w' ⟨rfl,n,rfl⟩
 have e2:Lib.cut s.data.toList (⟨#[c]⟩:ByteArray).data.toList=(x,y,true):=by
  show Lib.cut s.data.toList [c]=_
  rw [Vc,h]
 rw [e2];exact ⟨rfl,(xR W).drN n⟩
theorem Afg (s:ByteArray):(⟨s.data.toList.toArray⟩:ByteArray)=s:=by
 apply ByteArray.ext;simp
theorem Ach (c:UInt8)(s:ByteArray)(W:World)(hs:s.size<4294967281)(hm:Max0 W)(h:cutL c s.data.toList=none) :
  Calls Tryz.prog 196 #[.string s,.string ⟨#[c]⟩] W fun e w'=>e=.returned (.tuple #[.string s,.string ⟨#[]⟩,.bool false])∧Ext W w':=by
 obtain ⟨m,hm⟩:=hm;refine (Tryz.strings_Cut s ⟨#[c]⟩ m W hs hm).mono ?_;rintro e w' ⟨rfl,n,rfl⟩
 have e2:Lib.cut s.data.toList (⟨#[c]⟩:ByteArray).data.toList=(s.data.toList,[],false):=by
  show Lib.cut s.data.toList [c]=_
  rw [Vc,h]
 rw [e2];simp only [Afg];exact ⟨trivial,(xR W).drN n⟩
/-! Whole, answered. -/
theorem Vm (v:Value)(X:Int)(b:Nat)(w:World)(h:IntO w b v X)(hb:b≤w.heap.size) :
  Calls Tryz.prog 198 #[v] w fun e w'=>∃ f:FV,e=.returned (.agg #[.bool f.b1,.slice f.a1 f.n1 f.c1,.bool f.b2,.slice f.a2 f.n2 f.c2])∧Ext w w'∧FracO w' b (.agg #[.bool f.b1,.slice f.a1 f.n1 f.c1,.bool f.b2,.slice f.a2 f.n2 f.c2]) (X:Rat):=by
 have H:=h;obtain ⟨p,q,r,s,rfl⟩:=h.r.shape;have ho:=mK (fun w=>of_c 1 w (by omega) (by omega));obtain ⟨wb,hwb⟩:=nmE ((w.alloc (.cells #[.bool p,.slice q r s] 26)).alloc (.cells #[.bool false,.slice none 0 0,.bool false,.slice none 0 0] 28));have hE:=aLe2 hwb;obtain ⟨c0,c1⟩:=ceX1 (aL20 hwb);have hB:=mK (fun W (e:Ext wb W)=>(e.blk (show wb.heap[w.heap.size+1]? = some (.cells #[.bool false,.slice none 0 0,.bool false,.slice none 0 0] 28 (0,0)) by rw [hwb];exact Bl _ _ _ (by simp))));have hsz:w.heap.size+2≤wb.heap.size:=by rw [hwb];simp
 have h0:=mK (fun k (hk:k∈Aloof.blks (.agg #[.bool p,.slice q r s]))=>(h.span k hk).2);replace H:=mK (H.ext hE);replace hE:=mK hE;clear h;go_enter Tryz.func198,Tryz.ntmps198;go_wp2_with fail;rw [←hwb];clear hwb;apply Ak [.val (.agg #[.bool p,.slice q r s]),.pred (fun W v=>IntO W (w.heap.size+2) v 1)] (by kernel_rfl) (stable_vals _ (Av _ _ trivial));refine ⟨fun W hW _=>by have:=c0 W hW;have:=c1 W hW;go_simp;first|exact ⟨xR _,rfl⟩|exact xR _,?_⟩;refine ⟨fun W hW hF=>?g1,fun v1=>fun W hW hF=>?fin⟩
 case g1=>
  clear hF;go_simp;refine (ho.out W).mono ?_;rintro e w' ⟨v,rfl,h1,h2⟩;exact ⟨v,rfl,h1,h2.mono (nT hsz hW.size)⟩
 case fin=>
  have d1:IntO W (w.heap.size+2) v1 1:=hF.1 rfl;obtain ⟨y1,y2,y3,y4,rfl⟩:=d1.r.shape;have HX:IntO W b (.agg #[.bool p,.slice q r s]) X:=H.out.ext hW
  have R:FracO (W.setRow (w.heap.size+1) #[.bool p,.slice q r s,.bool y1,.slice y2 y3 y4]) b (.agg #[.bool p,.slice q r s,.bool y1,.slice y2 y3 y4]) (X:Rat):=by
   refine ⟨_,_,_,_,_,_,_,_,rfl,?_,?_⟩
   ·rw [Rat.num_intCast]
    refine HX.near fun k hk=>?_;rw [setRow_other _ _ _ _ ?_];intro e;have:=(h0.out k hk)
    omega
   ·rw [Rat.den_intCast]
    exact (d1.row (g:=w.heap.size+1) (by omega) _).mono (by omega)
  have hBW:=hB.out W hW;have FE:=mK ((hE.out.trans hW).row (show w.heap.size≤w.heap.size+1 by omega) #[.bool p,.slice q r s,.bool y1,.slice y2 y3 y4]);replace R:=mK R;clear hF c0 c1 hW HX d1;go_simp;go_wp2_with (refine wpList_store_row rfl 28 (.tmp 2) (.tmp 5) rfl (w.heap.size+1) #[.bool p,.slice q r s,.bool y1,.slice y2 y3 y4] rfl rfl 28 _ hBW (by kernel_rfl) rfl (by kernel_rfl) ?_);exact bodyPost_ret (results_cell_row rfl _ _ (w.heap.size+1) 28 #[.bool p,.slice q r s,.bool y1,.slice y2 y3 y4] (0,0) _ rfl (setRow_heap _ _ _ _ _ _ hBW) Tryz.underlying28 rfl (by kernel_rfl)) rfl ⟨⟨p,q,r,s,y1,y2,y3,y4⟩,rfl,FE.out,R.out⟩
def AnsQ (w:World)(x:Rat)(e:Ending)(w':World):Prop:=∃ f:FV,e=.returned (.tuple #[.agg #[.bool f.b1,.slice f.a1 f.n1 f.c1,.bool f.b2,.slice f.a2 f.n2 f.c2],.int .i64 (capE x)])∧Ext w w'∧(nf x≤2048→FracO w' w.heap.size (.agg #[.bool f.b1,.slice f.a1 f.n1 f.c1,.bool f.b2,.slice f.a2 f.n2 f.c2]) x)
theorem Vh (v:Value)(x:Rat)(w:World)(hx:nf x≤268435456)(h:FracR w v x) :
  Calls Tryz.prog 140 #[v] w (AnsQ w x):=by
 have H:=h;obtain ⟨p1,q1,r1,s1,p2,q2,r2,s2,rfl⟩:=h.shape;have ha:=mK (fun w gg (hg:LR w gg [x])=>Ss gg 1 [x] w (by simp) (fun y hy=>by simp at hy;subst hy;omega) hg);have hc:=mK (fun w h=>Vd (.agg #[.bool p1,.slice q1 r1 s1,.bool p2,.slice q2 r2 s2]) x w hx h);simp only [List.any_cons,List.any_nil,Bool.or_false,decide_eq_true_eq] at ha;obtain ⟨w3,hw3⟩:=nmE (((w.alloc (.cells #[.bool p1,.slice q1 r1 s1,.bool p2,.slice q2 r2 s2] 28)).alloc (.cells #[.bool false,.slice none 0 0,.bool false,.slice none 0 0] 28)).alloc (.cells #[.bool p1,.slice q1 r1 s1,.bool p2,.slice q2 r2 s2] 28));have hE:=aLe3 hw3;have z0:=mK (aL30 hw3);have z1:=mK (aL31 hw3);have z2:w3.heap[w.heap.size+1+1]? = some (.cells #[.bool p1,.slice q1 r1 s1,.bool p2,.slice q2 r2 s2] 28 (0,0)):=by rw [hw3];exact Bl _ _ _ (by simp)
 replace H:=H.ext hE;replace ha:=mK (ha.out w3 _ (Uf z2 H));rw [List.length_singleton] at ha;replace H:=mK H;replace hE:=mK hE;clear h z2;by_cases hl:nf x≤2048
 ·have hcp:capE x=0:=by unfold capE;rw [if_pos hl]
  rw [if_neg (show ¬2048<nf x by omega)] at ha;go_enter Tryz.func140,Tryz.ntmps140;go_wp2_with fail;rw [←hw3];clear hw3;replace hcp:=mK hcp;refine ha.out.mono ?_;rintro e w4 ⟨rfl,hE4⟩;have b0:=Bt (hE4.blk z0.out);replace z1:=mK (hE4.blk z1.out);have hz4:w.heap.size+2≤w4.heap.size:=(Array.getElem?_eq_some_iff.1 z1.out).1;replace H:=mK (H.out.ext hE4);replace hE:=mK (hE.out.trans hE4);clear hE4 ha;go_wp2_with fail;refine (hc.out w4 H.out).mono ?_;rintro e w5 ⟨v,rfl,hE5,hv⟩;obtain ⟨x1,x2,x3,x4,y1,y2,y3,y4,rfl⟩:=hv.r.shape;replace z1:=hE5.blk z1.out;have FR:=(hv.row (g:=w.heap.size+1) (by omega) #[.bool x1,.slice x2 x3 x4,.bool y1,.slice y2 y3 y4]).mono (show w.heap.size≤w4.heap.size by omega);have FE:=mK ((hE.out.trans hE5).row (show w.heap.size≤w.heap.size+1 by omega) #[.bool x1,.slice x2 x3 x4,.bool y1,.slice y2 y3 y4]);replace FR:=mK FR;clear hv hE5 b0;go_wp2_with (refine wpList_store_row rfl 28 (.tmp 2) (.tmp 13) rfl (w.heap.size+1) #[.bool x1,.slice x2 x3 x4,.bool y1,.slice y2 y3 y4] rfl rfl 28 _ z1 (by kernel_rfl) rfl (by kernel_rfl) ?_);refine bodyPost_ret (Aj rfl _ _ (w.heap.size+1) 28 #[.bool x1,.slice x2 x3 x4,.bool y1,.slice y2 y3 y4] _ _ rfl rfl (setRow_heap _ _ _ _ _ _ z1) Tryz.underlying28 rfl (by kernel_rfl)) rfl ?_;exact ⟨⟨x1,x2,x3,x4,y1,y2,y3,y4⟩,by rw [hcp.out];rfl,FE.out,fun _=>FR.out⟩
 ·have hcp:capE x=4:=by unfold capE;rw [if_neg hl]
  rw [if_pos (show 2048<nf x by omega)] at ha;go_enter Tryz.func140,Tryz.ntmps140;go_wp2_with fail;rw [←hw3];clear hw3;replace hcp:=mK hcp;refine ha.out.mono ?_;rintro e w4 ⟨rfl,hE4⟩;replace z1:=hE4.blk z1.out;have FE:=mK ((hE.out.trans hE4).row (show w.heap.size≤w.heap.size+1 by omega) #[.bool false,.slice none 0 0,.bool false,.slice none 0 0]);clear hE4 ha;go_wp2_with (refine wpList_store_row rfl 28 (.tmp 2) (.tmp 10) rfl (w.heap.size+1) #[.bool false,.slice none 0 0,.bool false,.slice none 0 0] rfl rfl 28 _ z1 (by kernel_rfl) rfl (by kernel_rfl) ?_);refine bodyPost_ret (Aj rfl _ _ (w.heap.size+1) 28 #[.bool false,.slice none 0 0,.bool false,.slice none 0 0] _ _ rfl rfl (setRow_heap _ _ _ _ _ _ z1) Tryz.underlying28 rfl (by kernel_rfl)) rfl ?_;exact ⟨⟨false,none,0,0,false,none,0,0⟩,by rw [hcp.out];rfl,FE.out,fun h=>absurd h hl⟩
end Go.Proofs.YtlknpnommcohkaaGreatDoor
