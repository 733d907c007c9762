/-
  proof: Stays, at the bench of lives. frac: Check, Sign, Cmp; law25: far. The proof of lives as data; of; what is asked of such a proof (the closures of so). proof: so (the map of what is asked, by kinds). proof: Check, at the proof of lives whose limit is too low: it is not so. The law's lives: the chapter's bench is alive. What the row of ProofBack gives at its first world: the powers of ten, the library's number, the two error values. ProofBack: for every proof and every text that come in the law returns true, and both read as they did. The card ties the row's seven listed variables to the program's text; of these the proof looks into internal/strconv's powers of ten and into the two error values of strconv alone.
-/
import Derived.Test.YtlknpnommcohkaaGreatDoorKAP
import Derived.Test.YtlknpnommcohkaaGreatDoorKAE
import Derived.Test.YtlknpnommcohkaaGreatDoorKAF
import Derived.Test.YtlknpnommcohkaaGreatDoorKAC
import Derived.Test.YtlknpnommcohkaaGreatDoorKAA
import Derived.Test.YtlknpnommcohkaaGreatDoorKAB
import Derived.Test.YtlknpnommcohkaaGreatDoorKAD
import Derived.LoopN
import Derived.Laws.AppendOwnNone
import Derived.Deep.LoopGhost
import Derived.Test.YtlknpnommcohkaaGreatDoorKAH
import Derived.Maps.Keyed
import Derived.Laws.EntriesVeiled
import Derived.Test.YtlknpnommcohkaaGreatDoorRows
import Derived.Shelf.Vars
import Derived.ProofKit
import Derived.LaidMore
import Derived.OpenShut
import Derived.Lay
import Derived.Stop.Joined
import Derived.Lib.SmallJoins
import Derived.SevenTiedAt
import Derived.Stop.LaidErr
import Derived.Test.YtlknpnommcohkaaGreatDoorCards
import Derived.Test.YtlknpnommcohkaaGreatDoorTie
import Derived.ChangeMaps5
set_option maxHeartbeats 6400000
namespace Go.Proofs.YtlknpnommcohkaaGreatDoor
set_option maxRecDepth 100000
open Go Go.RowKit Go.Proofs
def StV (b:Nat)(w:World)(v:Value)(f3:FV):Prop:=∃ (s:Value) (f1 f2:FV) (ns:List (EL×Value)),v=.agg (pfC (Bp (pvB 1 f1 f2 f3 0) s))∧ns.map (·.1)=lBe∧Lo 9 72 (EpO b) b w s ns∧FracO w b (.agg #[.bool f1.b1,.slice f1.a1 f1.n1 f1.c1,.bool f1.b2,.slice f1.a2 f1.n2 f1.c2]) 1∧FracO w b (.agg #[.bool f2.b1,.slice f2.a1 f2.n1 f2.c1,.bool f2.b2,.slice f2.a2 f2.n2 f2.c2]) 0
theorem StV.ext {b:Nat}{w w':World}{v:Value}{f3:FV}(h:StV b w v f3)(e:Ext w w'):StV b w' v f3:=by
 obtain ⟨s,f1,f2,ns,e0,e1,h1,h2,h3⟩:=h;exact ⟨s,f1,f2,ns,e0,e1,h1.ext (fun _ _ h=>h.ext e) e,h2.ext e,h3.ext e⟩
theorem StV.row {b g:Nat}{w:World}{v:Value}{f3:FV}(h:StV b w v f3)(hg:g<b)(cs:Array Value):StV b (w.setRow g cs) v f3:=by
 obtain ⟨s,f1,f2,ns,e0,e1,⟨h1,i1,z1⟩,h2,h3⟩:=h;exact ⟨s,f1,f2,ns,e0,e1,⟨Dy h1 hg cs,fun x hx=>(i1 x hx).row hg cs,z1⟩,h2.row hg cs,h3.row hg cs⟩
theorem StV.mono {b b':Nat}{w:World}{v:Value}{f3:FV}(h:StV b w v f3)(e:b'≤b):StV b' w v f3:=by
 obtain ⟨s,f1,f2,ns,e0,e1,h1,h2,h3⟩:=h;exact ⟨s,f1,f2,ns,e0,e1,h1.mono e fun _ _ h=>h.mono e,h2.mono e,h3.mono e⟩
theorem Afh {ss:List FSpec}(b:Nat)(f:FV)(h:StableAll Ext ss):StableAll Ext (.pred (fun W v=>StV b W v f)::ss):=⟨fun _ _ _ e h=>StV.ext h e,h⟩
def CbV (b:Nat)(w:World)(v:Value):Prop:=∃ ns:List (EL×Value),ns.map (·.1)=lBe∧Lo 9 72 (EpO b) b w v ns
theorem Afm {ss:List FSpec}(b:Nat)(h:StableAll Ext ss):StableAll Ext (.pred (fun W v=>CbV b W v)::ss):=⟨fun _ _ _ e h=>by obtain ⟨ns,e1,h1⟩:=h;exact ⟨ns,e1,h1.ext (fun _ _ h=>h.ext e) e⟩,h⟩
theorem Ac2 {b:Nat}{w:World}{v:Value}{f3:FV}(h:StV b w v f3):∃ cs:Array Value,v=.agg cs∧cs.size=27∧cs.all (·.oneCell')=true:=by
 obtain ⟨s,f1,f2,ns,rfl,-,h1,-,-⟩:=h;obtain ⟨a,c,rfl,-,-⟩:=Fr h1.row;exact ⟨_,rfl,rfl,by simp [pfC,Bp,pvB,Value.oneCell']⟩
theorem Aa5 (s r:Value)(os:List (EL×Value))(w:World)(h:Ls 9 EltR w s os)(hos:os.map (·.1)=lBe)(hr:RyR w r 1 0) :
  Calls Tryz.prog 51 #[s,r] w fun e w'=>∃ v f3,e=.returned (.tuple #[v,.int .i64 0])∧Ext w w'∧StV w.heap.size w' v f3∧FracO w' w.heap.size (.agg #[.bool f3.b1,.slice f3.a1 f3.n1 f3.c1,.bool f3.b2,.slice f3.a2 f3.n2 f3.c2]) lQ:=by
 obtain ⟨g1,g2,rfl,k1,k2⟩:=id hr;obtain ⟨zc,hzc⟩:=nmE (pfC zPV);have hzn:zc.size=27:=by rw [hzc];rfl
 obtain ⟨w2,hw2⟩:=nmE ((w.alloc (.cells #[.bool g1.b1,.slice g1.a1 g1.n1 g1.c1,.bool g1.b2,.slice g1.a2 g1.n2 g1.c2,.bool g2.b1,.slice g2.a1 g2.n1 g2.c1,.bool g2.b2,.slice g2.a2 g2.n2 g2.c2] 30)).alloc (.cells zc 39));have hE2:=aLe2 hw2;have z0:=aL20 hw2;have z1:=aL21 hw2;have hs:=aLs2 hw2;have hx:∀ {W},Ext w2 W→Ls 9 EltR W s os:=fun e=>h.ext (fun v r (x:EltR w v r)=>by obtain ⟨p,q,e0,h1,h2⟩:=x;exact ⟨p,q,e0,h1.ext (hE2.trans e),h2.ext (hE2.trans e)⟩) (hE2.trans e);have KC:=mK (Ad4 s os w2 (hx (xR _)) hos);have KG:=mK (fun W g (e:Ext w2 W) (z:W.heap[g]? = some (.cells #[.bool g1.b1,.slice g1.a1 g1.n1 g1.c1,.bool g1.b2,.slice g1.a2 g1.n2 g1.c2,.bool g2.b1,.slice g2.a1 g2.n1 g2.c1,.bool g2.b2,.slice g2.a2 g2.n2 g2.c2] 28 (0,0)))=>(show Calls Tryz.prog 66 #[.slice (some ⟨g,0,none⟩) 2 2] W fun e w'=>e=.returned (.bool true)∧Ext W w' from Up _ [(some 1,.agg #[.bool g1.b1,.slice g1.a1 g1.n1 g1.c1,.bool g1.b2,.slice g1.a2 g1.n2 g1.c2]),(some 0,.agg #[.bool g2.b1,.slice g2.a1 g2.n1 g2.c1,.bool g2.b2,.slice g2.a2 g2.n2 g2.c2])] W (by show (2:Nat)≤_;omega) (ls2 z ((k1.ext (hE2.trans e)).some nf1) ((k2.ext (hE2.trans e)).some nf0))));have KM:=mK (fun W (e:Ext w2 W)=>Rx s os W (hx e) hos);have KS:=mK (fun v W (e:Ext w2 W) (k:M4R W v (lM 2))=>Wm v (.agg #[.bool g1.b1,.slice g1.a1 g1.n1 g1.c1,.bool g1.b2,.slice g1.a2 g1.n2 g1.c2,.bool g2.b1,.slice g2.a1 g2.n1 g2.c1,.bool g2.b2,.slice g2.a2 g2.n2 g2.c2]) W k (hr.ext (hE2.trans e)));have KB:=mK (fun v W (e:Ext w2 W) (k:M4R W v (lM 2))=>Aez v (.agg #[.bool g1.b1,.slice g1.a1 g1.n1 g1.c1,.bool g1.b2,.slice g1.a2 g1.n2 g1.c2,.bool g2.b1,.slice g2.a1 g2.n1 g2.c1,.bool g2.b2,.slice g2.a2 g2.n2 g2.c2]) W k (hr.ext (hE2.trans e)));have K1:=mK (fun W (e:Ext w2 W)=>Lz s os W (by rw [Aby hos];omega) (hx e) fun x hx=>⟨nT (Abx hos x hx).1 (by decide),nT (Abx hos x hx).2.1 (by decide)⟩)
 have K2:=mK (fun W (e:Ext w2 W)=>Pf (.agg #[.bool g1.b1,.slice g1.a1 g1.n1 g1.c1,.bool g1.b2,.slice g1.a2 g1.n2 g1.c2,.bool g2.b1,.slice g2.a1 g2.n1 g2.c1,.bool g2.b2,.slice g2.a2 g2.n2 g2.c2]) 1 0 W (nT nf1 (by decide)) (nT nf0 (by decide)) (hr.ext (hE2.trans e)));have Z0:=mK (fun W (e:Ext w2 W)=>e.blk z0);have Z1:=mK (fun W (e:Ext w2 W)=>e.blk z1);obtain ⟨a,c,rfl,-⟩:=h.slice;replace hos:=mK hos;replace hw2:=mK hw2;replace hE2:=mK hE2;replace hs:=mK hs;have hzd:=hzc;simp only [pfC,zPV] at hzd;replace hzd:=mK hzd;clear hx h hr k1 k2 z0 z1 hzc;go_enter Tryz.func51,Tryz.ntmps51;have tok:Tok 0:=.mk _
 go_upto_region 12 with (first
  | (replace tok:Tok 1:=nxT 0 tok;go_at_call 65;rw [←hzd.out,←hw2.out];refine KC.out.mono ?_;rintro e w3 ⟨rfl,hx3⟩;(have z3:=mK (fun W (e:Ext w3 W)=>Z0.out W (hx3.trans e)));(obtain ⟨w4,hw4⟩:=nmE (w3.alloc (.cells #[.bool g1.b1,.slice g1.a1 g1.n1 g1.c1,.bool g1.b2,.slice g1.a2 g1.n2 g1.c2,.bool g2.b1,.slice g2.a1 g2.n1 g2.c1,.bool g2.b2,.slice g2.a2 g2.n2 g2.c2] 28)));(have z4:w4.heap[w3.heap.size]? = some (.cells #[.bool g1.b1,.slice g1.a1 g1.n1 g1.c1,.bool g1.b2,.slice g1.a2 g1.n2 g1.c2,.bool g2.b1,.slice g2.a1 g2.n1 g2.c1,.bool g2.b2,.slice g2.a2 g2.n2 g2.c2] 28 (0,0)):=by rw [hw4];exact heap_alloc_new _ _);(have hx4:=mK (show Ext w2 w4 by rw [hw4];exact hx3.al _));(replace z4:=mK z4);(replace hw4:=mK hw4);clear hx3)
  | (replace tok:Tok 2:=nxT 1 tok;refine Ag (by rfl) 28 (.tmp 15) rfl w.heap.size 0 rfl 30 #[.bool g1.b1,.slice g1.a1 g1.n1 g1.c1,.bool g1.b2,.slice g1.a2 g1.n2 g1.c2,.bool g2.b1,.slice g2.a1 g2.n1 g2.c1,.bool g2.b2,.slice g2.a2 g2.n2 g2.c2] #[.bool g1.b1,.slice g1.a1 g1.n1 g1.c1,.bool g1.b2,.slice g1.a2 g1.n2 g1.c2] (0,0) _ (z3.out _ (xR _)) rfl Tryz.underlying28 rfl (by kernel_rfl) ?_)
  | (replace tok:Tok 3:=nxT 2 tok;refine Ag (by rfl) 28 (.tmp 17) rfl w.heap.size 4 rfl 30 #[.bool g1.b1,.slice g1.a1 g1.n1 g1.c1,.bool g1.b2,.slice g1.a2 g1.n2 g1.c2,.bool g2.b1,.slice g2.a1 g2.n1 g2.c1,.bool g2.b2,.slice g2.a2 g2.n2 g2.c2] #[.bool g2.b1,.slice g2.a1 g2.n1 g2.c1,.bool g2.b2,.slice g2.a2 g2.n2 g2.c2] (0,0) _ (z3.out _ (xR _)) rfl Tryz.underlying28 rfl (by kernel_rfl) ?_)
  | (replace tok:Tok 4:=nxT 3 tok;go_at_call 66;rw [←hw4.out];refine (KG.out w4 w3.heap.size hx4.out z4.out).mono ?_;rintro e w5 ⟨rfl,hx5⟩;(replace hx5:=mK (hx4.out.trans hx5)))
  | (replace tok:Tok 5:=nxT 4 tok;go_at_call 105;refine (KM.out _ hx5.out).mono ?_;rintro e w6 ⟨v,rfl,hx6,hm⟩;(obtain ⟨m1,m2,m3,m4,rfl,hm1,hm2,hm3,hm4⟩:=id hm);(obtain ⟨w7,hw7⟩:=nmE (w6.alloc (.cells #[.bool m1.b1,.slice m1.a1 m1.n1 m1.c1,.bool m1.b2,.slice m1.a2 m1.n2 m1.c2,.bool m2.b1,.slice m2.a1 m2.n1 m2.c1,.bool m2.b2,.slice m2.a2 m2.n2 m2.c2,.bool m3.b1,.slice m3.a1 m3.n1 m3.c1,.bool m3.b2,.slice m3.a2 m3.n2 m3.c2,.bool m4.b1,.slice m4.a1 m4.n1 m4.c1,.bool m4.b2,.slice m4.a2 m4.n2 m4.c2] 140)));(have z7:w7.heap[w6.heap.size]? = some (.cells #[.bool m1.b1,.slice m1.a1 m1.n1 m1.c1,.bool m1.b2,.slice m1.a2 m1.n2 m1.c2,.bool m2.b1,.slice m2.a1 m2.n1 m2.c1,.bool m2.b2,.slice m2.a2 m2.n2 m2.c2,.bool m3.b1,.slice m3.a1 m3.n1 m3.c1,.bool m3.b2,.slice m3.a2 m3.n2 m3.c2,.bool m4.b1,.slice m4.a1 m4.n1 m4.c1,.bool m4.b2,.slice m4.a2 m4.n2 m4.c2] 140 (0,0)):=by rw [hw7];exact heap_alloc_new _ _);(have hx7:=mK (show Ext w2 w7 by rw [hw7];exact (hx5.out.trans hx6).al _));(have hm7:=mK (fun W (e:Ext w7 W)=>show M4R W (.agg #[.bool m1.b1,.slice m1.a1 m1.n1 m1.c1,.bool m1.b2,.slice m1.a2 m1.n2 m1.c2,.bool m2.b1,.slice m2.a1 m2.n1 m2.c1,.bool m2.b2,.slice m2.a2 m2.n2 m2.c2,.bool m3.b1,.slice m3.a1 m3.n1 m3.c1,.bool m3.b2,.slice m3.a2 m3.n2 m3.c2,.bool m4.b1,.slice m4.a1 m4.n1 m4.c1,.bool m4.b2,.slice m4.a2 m4.n2 m4.c2]) (lM 2) from MtR.ext (MtO.r (MtO.ext hm (show Ext w6 w7 by rw [hw7];exact (xR w6).al _))) e));(replace z7:=mK (fun W (e:Ext w7 W)=>e.blk z7));(replace hw7:=mK hw7);clear hm hm1 hm2 hm3 hm4 hx6)
  | (replace tok:Tok 6:=nxT 5 tok;rw [←hw7.out];refine wpList_load_row (by rfl) 140 (.tmp 6) rfl w6.heap.size rfl 140 #[.bool m1.b1,.slice m1.a1 m1.n1 m1.c1,.bool m1.b2,.slice m1.a2 m1.n2 m1.c2,.bool m2.b1,.slice m2.a1 m2.n1 m2.c1,.bool m2.b2,.slice m2.a2 m2.n2 m2.c2,.bool m3.b1,.slice m3.a1 m3.n1 m3.c1,.bool m3.b2,.slice m3.a2 m3.n2 m3.c2,.bool m4.b1,.slice m4.a1 m4.n1 m4.c1,.bool m4.b2,.slice m4.a2 m4.n2 m4.c2] (0,0) _ (z7.out _ (xR _)) Tryz.underlying140 rfl (by kernel_rfl) ?_)
  | (replace tok:Tok 7:=nxT 6 tok;refine wpList_load_row (by rfl) 30 (.tmp 3) rfl w.heap.size rfl 30 #[.bool g1.b1,.slice g1.a1 g1.n1 g1.c1,.bool g1.b2,.slice g1.a2 g1.n2 g1.c2,.bool g2.b1,.slice g2.a1 g2.n1 g2.c1,.bool g2.b2,.slice g2.a2 g2.n2 g2.c2] (0,0) _ (Z0.out _ hx7.out) Tryz.underlying30 rfl (by kernel_rfl) ?_)
  | (replace tok:Tok 8:=nxT 7 tok;go_at_call 106;refine (KS.out _ _ hx7.out (hm7.out _ (xR _))).mono ?_;rintro e w8 ⟨rfl,hx8⟩;(replace hx8:=mK hx8))
  | (replace tok:Tok 9:=nxT 8 tok;refine wpList_load_row (by rfl) 140 (.tmp 6) rfl w6.heap.size rfl 140 #[.bool m1.b1,.slice m1.a1 m1.n1 m1.c1,.bool m1.b2,.slice m1.a2 m1.n2 m1.c2,.bool m2.b1,.slice m2.a1 m2.n1 m2.c1,.bool m2.b2,.slice m2.a2 m2.n2 m2.c2,.bool m3.b1,.slice m3.a1 m3.n1 m3.c1,.bool m3.b2,.slice m3.a2 m3.n2 m3.c2,.bool m4.b1,.slice m4.a1 m4.n1 m4.c1,.bool m4.b2,.slice m4.a2 m4.n2 m4.c2] (0,0) _ (z7.out _ hx8.out) Tryz.underlying140 rfl (by kernel_rfl) ?_)
  | (replace tok:Tok 10:=nxT 9 tok;refine wpList_load_row (by rfl) 30 (.tmp 3) rfl w.heap.size rfl 30 #[.bool g1.b1,.slice g1.a1 g1.n1 g1.c1,.bool g1.b2,.slice g1.a2 g1.n2 g1.c2,.bool g2.b1,.slice g2.a1 g2.n1 g2.c1,.bool g2.b2,.slice g2.a2 g2.n2 g2.c2] (0,0) _ (Z0.out _ (hx7.out.trans hx8.out)) Tryz.underlying30 rfl (by kernel_rfl) ?_)
  | (replace tok:Tok 11:=nxT 10 tok;go_at_call 107;refine (KB.out _ _ (hx7.out.trans hx8.out) (hm7.out _ hx8.out)).mono ?_;rintro e w9 ⟨v,rfl,hx9,hb⟩;(obtain ⟨f3,rfl⟩:=Bh hb);(obtain ⟨wb,hwb⟩:=nmE (w9.alloc (.cells #[.bool f3.b1,.slice f3.a1 f3.n1 f3.c1,.bool f3.b2,.slice f3.a2 f3.n2 f3.c2] 28)));(have zb:wb.heap[w9.heap.size]? = some (.cells #[.bool f3.b1,.slice f3.a1 f3.n1 f3.c1,.bool f3.b2,.slice f3.a2 f3.n2 f3.c2] 28 (0,0)):=by rw [hwb];exact heap_alloc_new _ _);(have hxb:Ext w2 wb:=by rw [hwb];exact (hx7.out.trans (hx8.out.trans hx9)).al _);(have hbb:FracO wb w.heap.size (.agg #[.bool f3.b1,.slice f3.a1 f3.n1 f3.c1,.bool f3.b2,.slice f3.a2 f3.n2 f3.c2]) lQ∧FracO wb (w.heap.size+2) (.agg #[.bool f3.b1,.slice f3.a1 f3.n1 f3.c1,.bool f3.b2,.slice f3.a2 f3.n2 f3.c2]) lQ:=by (have hq:w.heap.size+2≤w8.heap.size:=by (have:=hs.out;have:=(hx7.out.trans hx8.out).size;omega));(have hq2:FracO wb w8.heap.size (.agg #[.bool f3.b1,.slice f3.a1 f3.n1 f3.c1,.bool f3.b2,.slice f3.a2 f3.n2 f3.c2]) lQ:=by rw [hwb];exact hb.ext ((xR w9).al _));exact ⟨hq2.mono (by omega),hq2.mono hq⟩);(replace hxb:=mK hxb);(replace hbb:=mK hbb);(replace hwb:=mK hwb);(replace zb:=mK zb);clear hb hx9))
 rw [←hwb.out];have hsb:w.heap.size+2≤wb.heap.size:=by have:=hs.out;have:=hxb.out.size;omega
 have ZR:=mK (fun W (e:Ext wb W)=>Z0.out W (hxb.out.trans e));have ZO:=mK (fun W (e:Ext wb W)=>Z1.out W (hxb.out.trans e));have ZB:=mK (fun W (e:Ext wb W)=>e.blk zb.out);have hE:=mK (hE2.out.trans hxb.out);have L1:=mK (fun W (e:Ext wb W)=>K1.out W (hxb.out.trans e));have L2:=mK (fun W (e:Ext wb W)=>K2.out W (hxb.out.trans e));clear tok KC KG KM KS KB K1 K2 Z0 Z1 zb hm7 z7 hw7 z3 z4 hw4 hx4 hx5 hx7 hx8 hzd;apply Ak [.val (.slice a os.length c),.pred (fun W v=>CbV (w.heap.size+2) W v),.val (.agg #[.bool g1.b1,.slice g1.a1 g1.n1 g1.c1,.bool g1.b2,.slice g1.a2 g1.n2 g1.c2,.bool g2.b1,.slice g2.a1 g2.n1 g2.c1,.bool g2.b2,.slice g2.a2 g2.n2 g2.c2]),.pred (fun W v=>RyO (w.heap.size+2) W v 1 0),.val (.agg #[.bool f3.b1,.slice f3.a1 f3.n1 f3.c1,.bool f3.b2,.slice f3.a2 f3.n2 f3.c2]),.pred (fun W v=>StV (w.heap.size+2) W v f3)] (by kernel_rfl) (stable_vals _ (Afm _ (stable_vals _ (Tc _ _ _ (stable_vals _ (Afh (ss:=[]) _ _ trivial))))));refine ⟨fun W hW _=>by go_simp;first|exact ⟨xR _,rfl⟩|exact xR _,?_⟩;refine ⟨fun W hW hF=>?g1,fun v101=>?_⟩
 case g1=>
  clear hF;go_simp;refine (L1.out W hW).mono ?_;rintro e w' ⟨v,ns,rfl,h1,h2,h3⟩;have hq:=nT hsb hW.size;exact ⟨v,rfl,h1,ns,h2.trans hos.out,h3.mono hq fun _ _ h=>h.mono hq⟩
 refine ⟨?l2,?_⟩
 case l2=>
  intro W hW hF;have hr:=ZR.out W hW;clear hF;with_reducible refine Ah ?zhw 30 (.tmp 3) ?zho (w.heap.size) 0 ?zhx 30 _ #[.bool g1.b1,.slice g1.a1 g1.n1 g1.c1,.bool g1.b2,.slice g1.a2 g1.n2 g1.c2,.bool g2.b1,.slice g2.a1 g2.n1 g2.c1,.bool g2.b2,.slice g2.a2 g2.n2 g2.c2] (0,0) _ hr ?zhs Tryz.underlying30 ?zhd ?zhi ?zh
  case zhw=>kernel_rfl
  case zho=>rfl
  case zhx=>kernel_rfl
  case zhs=>rfl
  case zhd=>rfl
  case zhi=>kernel_rfl
  case zh=>exact ⟨xR _,rfl⟩
 refine ⟨fun W hW hF=>?g3,fun v103=>?_⟩
 case g3=>
  clear hF;go_simp;refine (L2.out W hW).mono ?_;rintro e w' ⟨v,rfl,h1,h2⟩;exact ⟨v,rfl,h1,h2.mono (nT hsb hW.size)⟩
 refine ⟨?l4,?_⟩
 case l4=>
  intro W hW hF;have hr:=ZB.out W hW;clear hF;with_reducible refine Ah ?zhw 28 (.tmp 10) ?zho (w9.heap.size) 0 ?zhx 28 _ #[.bool f3.b1,.slice f3.a1 f3.n1 f3.c1,.bool f3.b2,.slice f3.a2 f3.n2 f3.c2] (0,0) _ hr ?zhs Tryz.underlying28 ?zhd ?zhi ?zh
  case zhw=>kernel_rfl
  case zho=>rfl
  case zhx=>kernel_rfl
  case zhs=>rfl
  case zhd=>rfl
  case zhi=>kernel_rfl
  case zh=>exact ⟨xR _,rfl⟩
 refine ⟨fun W hW hF=>?g5,fun v105=>fun W hW hF=>?fin⟩
 case g5=>
  have d1:CbV (w.heap.size+2) W v101:=hF.2.1 (by kernel_rfl);have d2:RyO (w.heap.size+2) W v103 1 0:=hF.1 (by kernel_rfl);clear hF;obtain ⟨ns,e1,hL⟩:=d1;obtain ⟨f1,f2,e2,h1,h2⟩:=d2;obtain ⟨a2,c2,e3,-⟩:=Fr hL.row;subst e2 e3;have hm:=mK (show StV (w.heap.size+2) W (.agg (pfC (Bp (pvB 1 f1 f2 f3 0) (.slice a2 ns.length c2)))) f3 from ⟨_,f1,f2,ns,rfl,e1,hL,h1,h2⟩);clear e1 hL h1 h2;go_simp
  first
   | exact ⟨xR _,hm.out⟩
   | exact ⟨_,rfl,xR _,hm.out⟩
 case fin=>
  have dm:StV (w.heap.size+2) W v105 f3:=hF.1 rfl;obtain ⟨cs,rfl,hcn,hc1⟩:=Ac2 dm;have hBW:=ZO.out W hW;have hS:=(dm.row (g:=w.heap.size+1) (by omega) cs).mono (show w.heap.size≤w.heap.size+2 by omega);have FE:=(hE.out.trans hW).row (show w.heap.size≤w.heap.size+1 by omega) cs;have FL:=mK (((hbb.out.2.ext hW).row (g:=w.heap.size+1) (by omega) cs).mono (show w.heap.size≤w.heap.size+2 by omega));replace hS:=mK hS;replace FE:=mK FE;clear hF dm hW;go_simp;go_wp2_with (refine wpList_store_row rfl 39 (.tmp 4) (.tmp 61) rfl (w.heap.size+1) cs rfl rfl 39 _ hBW (by rw [hcn];kernel_rfl) (by rw [hcn,hzn]) hc1 ?_);exact bodyPost_ret (Aj rfl _ _ (w.heap.size+1) 39 cs _ _ rfl rfl (setRow_heap _ _ _ _ _ _ hBW) Tryz.underlying39 rfl (by rw [hcn];kernel_rfl)) rfl ⟨_,f3,rfl,FE.out,hS.out,FL.out⟩
theorem Aga (v v':Value)(x y:Rat)(w:World)(h:AnyF w v (some x))(h':AnyF w v' (some y)) :
  Calls Tryz.prog 163 #[v,v'] w fun e w'=>e=.returned (.int .i64 (cS x y))∧Ext w w':=by
 obtain ⟨p,rfl⟩:=h.fv;obtain ⟨q,rfl⟩:=h'.fv;obtain ⟨w1,hw1⟩:=nmE ((w.alloc (.cells #[.bool p.b1,.slice p.a1 p.n1 p.c1,.bool p.b2,.slice p.a2 p.n2 p.c2] 28)).alloc (.cells #[.bool q.b1,.slice q.a1 q.n1 q.c1,.bool q.b2,.slice q.a2 q.n2 q.c2] 28));have hE:=aLe2 hw1;have zp:=mK (aL20 hw1);have zq:=mK (aL21 hw1);obtain ⟨w2,hw2⟩:=nmE (w1.alloc (.cells #[.bool p.b1,.slice p.a1 p.n1 p.c1,.bool p.b2,.slice p.a2 p.n2 p.c2,.bool q.b1,.slice q.a1 q.n1 q.c1,.bool q.b2,.slice q.a2 q.n2 q.c2] 28));have hE2:=aLe1 hw2;have z2:=aL10 hw2;have KC:=mK (Hj w1.heap.size 2 [some x,some y] w2 (by simp) (Ui z2 (h.ext (hE.trans hE2)) (h'.ext (hE.trans hE2))));have KS:=mK (fun W (e:Ext w2 W)=>Ae3 (.agg #[.bool p.b1,.slice p.a1 p.n1 p.c1,.bool p.b2,.slice p.a2 p.n2 p.c2]) (.agg #[.bool q.b1,.slice q.a1 q.n1 q.c1,.bool q.b2,.slice q.a2 q.n2 q.c2]) x y W (nT h.frac.2 (by decide)) (nT h'.frac.2 (by decide)) (h.ext ((hE.trans hE2).trans e)).frac.1 (h'.ext ((hE.trans hE2).trans e)).frac.1);unfold cS;generalize (x.num*y.den-y.num*x.den).sign=C at *;have hE':=mK (hE.trans hE2);have zp2:=mK (fun W (e:Ext w2 W)=>e.blk (hE2.blk zp.out));have zq2:=mK (fun W (e:Ext w2 W)=>e.blk (hE2.blk zq.out));replace hw1:=mK hw1;replace hw2:=mK hw2;clear h h' z2 hE hE2;go_enter Tryz.func163,Tryz.ntmps163;have tok:Tok 0:=.mk _
 go_wp2_with (first
  | (replace tok:Tok 1:=nxT 0 tok;rw [←hw1.out];refine wpList_load_row (by rfl) 28 (.tmp 2) rfl w.heap.size rfl 28 #[.bool p.b1,.slice p.a1 p.n1 p.c1,.bool p.b2,.slice p.a2 p.n2 p.c2] (0,0) _ zp.out Tryz.underlying28 rfl (by kernel_rfl) ?_)
  | (replace tok:Tok 2:=nxT 1 tok;refine wpList_load_row (by rfl) 28 (.tmp 3) rfl (w.heap.size+1) rfl 28 #[.bool q.b1,.slice q.a1 q.n1 q.c1,.bool q.b2,.slice q.a2 q.n2 q.c2] (0,0) _ zq.out Tryz.underlying28 rfl (by kernel_rfl) ?_)
  | (replace tok:Tok 3:=nxT 2 tok;go_at_call 71;rw [←hw2.out];refine KC.out.mono ?_;rintro e w3 ⟨rfl,hx⟩;(have z3:=mK (zp2.out _ hx));(have z4:=mK (zq2.out _ hx));(have hx3:=mK hx);clear hx)
  | (replace tok:Tok 4:=nxT 3 tok;refine wpList_load_row (by rfl) 28 (.tmp 2) rfl w.heap.size rfl 28 #[.bool p.b1,.slice p.a1 p.n1 p.c1,.bool p.b2,.slice p.a2 p.n2 p.c2] (0,0) _ z3.out Tryz.underlying28 rfl (by kernel_rfl) ?_)
  | (replace tok:Tok 5:=nxT 4 tok;refine wpList_load_row (by rfl) 28 (.tmp 3) rfl (w.heap.size+1) rfl 28 #[.bool q.b1,.slice q.a1 q.n1 q.c1,.bool q.b2,.slice q.a2 q.n2 q.c2] (0,0) _ z4.out Tryz.underlying28 rfl (by kernel_rfl) ?_)
  | (replace tok:Tok 6:=nxT 5 tok;go_at_call 217;refine (KS.out _ hx3.out).mono ?_;rintro e w4 ⟨rfl,hx⟩;(have hE4:=mK (hE'.out.trans (hx3.out.trans hx)));clear hx))
 go_ret;exact ⟨rfl,hE4.out⟩
structure LPf (w:World) (x:PVd) (q:Rat):Prop where
 be:∃ os:List (EL×Value),os.map (·.1)=lBe∧Ls 9 EltR w x.s1 os
 fy:FracR w (.agg #[.bool x.y.b1,.slice x.y.a1 x.y.n1 x.y.c1,.bool x.y.b2,.slice x.y.a2 x.y.n2 x.y.c2]) 1
 fu:FracR w (.agg #[.bool x.u.b1,.slice x.u.a1 x.u.n1 x.u.c1,.bool x.u.b2,.slice x.u.a2 x.u.n2 x.u.c2]) 0
 fm:FracR w (.agg #[.bool x.m.b1,.slice x.m.a1 x.m.n1 x.m.c1,.bool x.m.b2,.slice x.m.a2 x.m.n2 x.m.c2]) q
 nq:nf q≤2048
 sh:∃ (s:Value) (f1 f2 f3:FV),x=Bp (pvB 1 f1 f2 f3 0) s
theorem LPf.ext {w w':World}{x:PVd}{q:Rat}(h:LPf w x q)(e:Ext w w'):LPf w' x q:=by
 obtain ⟨⟨os,h0,h1⟩,h2,h3,h4,h5,h6⟩:=h;exact ⟨⟨os,h0,h1.ext (fun _ _ k=>k.ext e) e⟩,h2.ext e,h3.ext e,h4.ext e,h5,h6⟩
theorem LPf.any {w:World}{x:PVd}{q:Rat}(h:LPf w x q):AnyPf w x (adB lBe 1 0 q):=by
 obtain ⟨⟨os,h0,h1⟩,h2,h3,h4,h5,s,f1,f2,f3,rfl⟩:=h;exact ⟨⟨_,Wo h0,Abz h1 h0⟩,⟨[],rfl,Ii _ _ _ _ _⟩,⟨[],rfl,Ii _ _ _ _ _⟩,⟨[],rfl,Ii _ _ _ _ _⟩,h2.some nf1,h3.some nf0,h4.some h5,(Sf 0 w).any,(Sf 0 w).any,by show (0:Int)≤_;decide⟩
theorem LPf.may {w:World}{x:PVd}{q:Rat}(h:LPf w x q):Bw x (adB lBe 1 0 q)=true∧pfD x (adB lBe 1 0 q)=.bound lBe 1 0 q∧okPF (.bound lBe 1 0 q):=by
 obtain ⟨-,-,-,-,h5,s,f1,f2,f3,rfl⟩:=h;have hok:okPF (.bound lBe 1 0 q):=⟨l_okB,nf1,nf0,h5⟩
 obtain ⟨e1,e2⟩:=Nu (x:=Bp (pvB 1 f1 f2 f3 0) s) (l:=lBe) (y:=1) (u:=0) (m:=q) rfl rfl rfl Zu Zu;exact ⟨e2 hok,e1,hok⟩
theorem LPf.pf {w:World}{x:PVd}{q:Rat}(h:LPf w x q):PfR w x (.bound lBe 1 0 q):=by
 obtain ⟨e1,e2,-⟩:=h.may;rw [←e2];exact (Aa3 h.any e1).1
theorem LPf.one {w:World}{x:PVd}{q:Rat}(h:LPf w x q):(pfC x).all (·.oneCell')=true∧(pfC x).size=27∧∀ (j:Nat) (z:Int),(pfC x)[j]?≠some (Value.int .u32 z):=by
 obtain ⟨⟨os,h0,h1⟩,-,-,-,-,s,f1,f2,f3,rfl⟩:=h;obtain ⟨a,c,e,-⟩:=h1.slice;have e:s=.slice a os.length c:=e;subst e;refine ⟨by simp [pfC,Bp,pvB,Value.oneCell'],rfl,fun j z hz=>?_⟩;have:=Array.mem_of_getElem? hz;simp [pfC,Bp,pvB] at this
theorem Afu (n d:Int)(w:World)(h0:-9223372036854775808≤n)(h1:n<9223372036854775808)(h2:-9223372036854775808≤d)(h3:d<9223372036854775808)(hd:d≠0) :
  Calls Tryz.prog 50 #[.int .i64 n,.int .i64 d] w fun e w'=>∃ v,e=.returned v∧Ext w w'∧AnyF w' v (some (Rat.divInt n d)):=by
 obtain ⟨w2,hw2⟩:=nmE (w.alloc (.cells #[.bool false,.slice none 0 0,.bool false,.slice none 0 0] 28));have hE2:=mK (aLe1 hw2);have z0:=aL10 hw2;have K:=mK (of_f n d w2 h0 h1 h2 h3 hd);have Z0:=mK (fun W (e:Ext w2 W)=>e.blk z0);replace hw2:=mK hw2;clear z0;go_enter Tryz.func50,Tryz.ntmps50;have tok:Tok 0:=.mk _
 go_wp2_with (first
  | (replace tok:Tok 1:=nxT 0 tok;go_at_call 104;rw [←hw2.out];refine K.out.mono ?_;rintro e w3 ⟨v,rfl,hx3,hf⟩;(obtain ⟨f,rfl⟩:=hf.fv);(obtain ⟨w4,hw4⟩:=nmE (w3.alloc (.cells #[.bool f.b1,.slice f.a1 f.n1 f.c1,.bool f.b2,.slice f.a2 f.n2 f.c2] 28)));(have z4:w4.heap[w3.heap.size]? = some (.cells #[.bool f.b1,.slice f.a1 f.n1 f.c1,.bool f.b2,.slice f.a2 f.n2 f.c2] 28 (0,0)):=by rw [hw4];exact heap_alloc_new _ _);(have hx4:=mK (show Ext w2 w4 by rw [hw4];exact hx3.al _));(have hf4:=mK (show AnyF w4 (.agg #[.bool f.b1,.slice f.a1 f.n1 f.c1,.bool f.b2,.slice f.a2 f.n2 f.c2]) _ by rw [hw4];exact hf.ext ((xR w3).al _)));(replace z4:=mK z4);(replace hw4:=mK hw4);clear hx3 hf)
  | (replace tok:Tok 2:=nxT 1 tok;rw [←hw4.out];refine wpList_load_row (by rfl) 28 (.tmp 5) rfl w3.heap.size rfl 28 #[.bool f.b1,.slice f.a1 f.n1 f.c1,.bool f.b2,.slice f.a2 f.n2 f.c2] (0,0) _ z4.out Tryz.underlying28 rfl (by kernel_rfl) ?_)
  | (replace tok:Tok 3:=nxT 2 tok;refine wpList_store_row rfl 28 (.tmp 4) (.tmp 13) rfl w.heap.size #[.bool f.b1,.slice f.a1 f.n1 f.c1,.bool f.b2,.slice f.a2 f.n2 f.c2] rfl rfl 28 _ (Z0.out _ hx4.out) (by kernel_rfl) rfl (by kernel_rfl) ?_))
 exact bodyPost_ret (results_cell_row rfl _ _ w.heap.size 28 #[.bool f.b1,.slice f.a1 f.n1 f.c1,.bool f.b2,.slice f.a2 f.n2 f.c2] (0,0) _ rfl (setRow_heap _ _ _ _ _ _ (Z0.out _ hx4.out)) Tryz.underlying28 rfl (by kernel_rfl)) rfl ⟨_,rfl,(hE2.out.trans hx4.out).row (nR _) _,hf4.out.flat (Z0.out _ hx4.out) (by simp [Sg]) _⟩
def lX:Rat:=5/4
theorem Af4:cS lX lQ = -1:=by decide +kernel
theorem nfX:nf lX≤2048:=Fg lX (by decide +kernel) (by decide +kernel)
theorem Afp (mv:Value)(pb:Nat)(x:PVd)(w:World)(zp:w.heap[pb]? = some (.cells (pfC x) 39 (0,0)))(hm:M4R w mv (lM 2))(h:LPf w x lX) :
  Calls Tryz.prog 162 #[mv,.pointer (some ⟨pb,0,none⟩)] w fun e w'=>e=.returned (.tuple #[.bool false,.int .i64 0])∧Ext w w':=by
 obtain ⟨m1,m2,m3,m4,rfl,-⟩:=id hm;obtain ⟨Cx,hCx⟩:=nmE (pfC x);rw [←hCx] at zp;have e2:Cx.extract 2 (2+(#[.bool x.y.b1,.slice x.y.a1 x.y.n1 x.y.c1,.bool x.y.b2,.slice x.y.a2 x.y.n2 x.y.c2,.bool x.u.b1,.slice x.u.a1 x.u.n1 x.u.c1,.bool x.u.b2,.slice x.u.a2 x.u.n2 x.u.c2]:Array Value).size)=#[.bool x.y.b1,.slice x.y.a1 x.y.n1 x.y.c1,.bool x.y.b2,.slice x.y.a2 x.y.n2 x.y.c2,.bool x.u.b1,.slice x.u.a1 x.u.n1 x.u.c1,.bool x.u.b2,.slice x.u.a2 x.u.n2 x.u.c2]:=by rw [hCx];rfl
 have e10:Cx.extract 10 (10+(#[.bool x.m.b1,.slice x.m.a1 x.m.n1 x.m.c1,.bool x.m.b2,.slice x.m.a2 x.m.n2 x.m.c2]:Array Value).size)=#[.bool x.m.b1,.slice x.m.a1 x.m.n1 x.m.c1,.bool x.m.b2,.slice x.m.a2 x.m.n2 x.m.c2]:=by rw [hCx];rfl
 obtain ⟨w2,hw2⟩:=nmE (w.alloc (.cells #[.bool m1.b1,.slice m1.a1 m1.n1 m1.c1,.bool m1.b2,.slice m1.a2 m1.n2 m1.c2,.bool m2.b1,.slice m2.a1 m2.n1 m2.c1,.bool m2.b2,.slice m2.a2 m2.n2 m2.c2,.bool m3.b1,.slice m3.a1 m3.n1 m3.c1,.bool m3.b2,.slice m3.a2 m3.n2 m3.c2,.bool m4.b1,.slice m4.a1 m4.n1 m4.c1,.bool m4.b2,.slice m4.a2 m4.n2 m4.c2] 140));have hE2:=aLe1 hw2;have z0:=aL10 hw2;have hr:RyR w (.agg #[.bool x.y.b1,.slice x.y.a1 x.y.n1 x.y.c1,.bool x.y.b2,.slice x.y.a2 x.y.n2 x.y.c2,.bool x.u.b1,.slice x.u.a1 x.u.n1 x.u.c1,.bool x.u.b2,.slice x.u.a2 x.u.n2 x.u.c2]) 1 0:=⟨x.y,x.u,rfl,h.fy,h.fu⟩
 have KS:=mK (fun W (e:Ext w2 W)=>Wm (.agg #[.bool m1.b1,.slice m1.a1 m1.n1 m1.c1,.bool m1.b2,.slice m1.a2 m1.n2 m1.c2,.bool m2.b1,.slice m2.a1 m2.n1 m2.c1,.bool m2.b2,.slice m2.a2 m2.n2 m2.c2,.bool m3.b1,.slice m3.a1 m3.n1 m3.c1,.bool m3.b2,.slice m3.a2 m3.n2 m3.c2,.bool m4.b1,.slice m4.a1 m4.n1 m4.c1,.bool m4.b2,.slice m4.a2 m4.n2 m4.c2]) (.agg #[.bool x.y.b1,.slice x.y.a1 x.y.n1 x.y.c1,.bool x.y.b2,.slice x.y.a2 x.y.n2 x.y.c2,.bool x.u.b1,.slice x.u.a1 x.u.n1 x.u.c1,.bool x.u.b2,.slice x.u.a2 x.u.n2 x.u.c2]) W (MtR.ext hm (hE2.trans e)) (hr.ext (hE2.trans e)));have KB:=mK (fun W (e:Ext w2 W)=>Aez (.agg #[.bool m1.b1,.slice m1.a1 m1.n1 m1.c1,.bool m1.b2,.slice m1.a2 m1.n2 m1.c2,.bool m2.b1,.slice m2.a1 m2.n1 m2.c1,.bool m2.b2,.slice m2.a2 m2.n2 m2.c2,.bool m3.b1,.slice m3.a1 m3.n1 m3.c1,.bool m3.b2,.slice m3.a2 m3.n2 m3.c2,.bool m4.b1,.slice m4.a1 m4.n1 m4.c1,.bool m4.b2,.slice m4.a2 m4.n2 m4.c2]) (.agg #[.bool x.y.b1,.slice x.y.a1 x.y.n1 x.y.c1,.bool x.y.b2,.slice x.y.a2 x.y.n2 x.y.c2,.bool x.u.b1,.slice x.u.a1 x.u.n1 x.u.c1,.bool x.u.b2,.slice x.u.a2 x.u.n2 x.u.c2]) W (MtR.ext hm (hE2.trans e)) (hr.ext (hE2.trans e)));have KC:=fun v W (e:Ext w2 W) k=>Aga (.agg #[.bool x.m.b1,.slice x.m.a1 x.m.n1 x.m.c1,.bool x.m.b2,.slice x.m.a2 x.m.n2 x.m.c2]) v lX lQ W ((h.fm.ext (hE2.trans e)).some nfX) k;rw [Af4] at KC;replace KC:=mK KC;have Z0:=mK (fun W (e:Ext w2 W)=>e.blk z0);have ZP:=mK (fun W (e:Ext w2 W)=>(hE2.trans e).blk zp);generalize x.y=y1 at *;generalize x.u=u1 at *;generalize x.m=n1 at *;replace e2:=mK e2;replace e10:=mK e10;replace hw2:=mK hw2;replace hE2:=mK hE2;clear hm h hr z0 zp hCx;go_enter Tryz.func162,Tryz.ntmps162;have tok:Tok 0:=.mk _
 go_wp2_with (first
  | (replace tok:Tok 1:=nxT 0 tok;rw [←hw2.out];refine wpList_load_row (by rfl) 140 (.tmp 2) rfl w.heap.size rfl 140 #[.bool m1.b1,.slice m1.a1 m1.n1 m1.c1,.bool m1.b2,.slice m1.a2 m1.n2 m1.c2,.bool m2.b1,.slice m2.a1 m2.n1 m2.c1,.bool m2.b2,.slice m2.a2 m2.n2 m2.c2,.bool m3.b1,.slice m3.a1 m3.n1 m3.c1,.bool m3.b2,.slice m3.a2 m3.n2 m3.c2,.bool m4.b1,.slice m4.a1 m4.n1 m4.c1,.bool m4.b2,.slice m4.a2 m4.n2 m4.c2] (0,0) _ (Z0.out _ (xR _)) Tryz.underlying140 rfl (by kernel_rfl) ?_)
  | (replace tok:Tok 2:=nxT 1 tok;refine Ap rfl 30 (.tmp 11) rfl pb 2 rfl 39 Cx #[.bool y1.b1,.slice y1.a1 y1.n1 y1.c1,.bool y1.b2,.slice y1.a2 y1.n2 y1.c2,.bool u1.b1,.slice u1.a1 u1.n1 u1.c1,.bool u1.b2,.slice u1.a2 u1.n2 u1.c2] (0,0) _ (ZP.out _ (xR _)) e2.out Tryz.underlying30 rfl (by kernel_rfl) ?_)
  | (replace tok:Tok 3:=nxT 2 tok;go_at_call 106;refine (KS.out _ (xR _)).mono ?_;rintro e w3 ⟨rfl,hx3⟩;(replace hx3:=mK hx3))
  | (replace tok:Tok 4:=nxT 3 tok;refine wpList_load_row (by rfl) 140 (.tmp 2) rfl w.heap.size rfl 140 #[.bool m1.b1,.slice m1.a1 m1.n1 m1.c1,.bool m1.b2,.slice m1.a2 m1.n2 m1.c2,.bool m2.b1,.slice m2.a1 m2.n1 m2.c1,.bool m2.b2,.slice m2.a2 m2.n2 m2.c2,.bool m3.b1,.slice m3.a1 m3.n1 m3.c1,.bool m3.b2,.slice m3.a2 m3.n2 m3.c2,.bool m4.b1,.slice m4.a1 m4.n1 m4.c1,.bool m4.b2,.slice m4.a2 m4.n2 m4.c2] (0,0) _ (Z0.out _ hx3.out) Tryz.underlying140 rfl (by kernel_rfl) ?_)
  | (replace tok:Tok 5:=nxT 4 tok;refine Ap rfl 30 (.tmp 24) rfl pb 2 rfl 39 Cx #[.bool y1.b1,.slice y1.a1 y1.n1 y1.c1,.bool y1.b2,.slice y1.a2 y1.n2 y1.c2,.bool u1.b1,.slice u1.a1 u1.n1 u1.c1,.bool u1.b2,.slice u1.a2 u1.n2 u1.c2] (0,0) _ (ZP.out _ hx3.out) e2.out Tryz.underlying30 rfl (by kernel_rfl) ?_)
  | (replace tok:Tok 6:=nxT 5 tok;go_at_call 107;refine (KB.out _ hx3.out).mono ?_;rintro e w4 ⟨v,rfl,hx4,hb⟩;(obtain ⟨f,rfl⟩:=Bh hb);(obtain ⟨w5,hw5⟩:=nmE (w4.alloc (.cells #[.bool f.b1,.slice f.a1 f.n1 f.c1,.bool f.b2,.slice f.a2 f.n2 f.c2] 28)));(have z5:w5.heap[w4.heap.size]? = some (.cells #[.bool f.b1,.slice f.a1 f.n1 f.c1,.bool f.b2,.slice f.a2 f.n2 f.c2] 28 (0,0)):=by rw [hw5];exact heap_alloc_new _ _);(have hx5:=mK (show Ext w2 w5 by rw [hw5];exact (hx3.out.trans hx4).al _));(have hb5:=mK (show AnyF w5 (.agg #[.bool f.b1,.slice f.a1 f.n1 f.c1,.bool f.b2,.slice f.a2 f.n2 f.c2]) (some lQ) by rw [hw5];exact (hb.r.some nfQ).ext ((xR w4).al _)));(replace z5:=mK z5);(replace hw5:=mK hw5);clear hx4 hb)
  | (replace tok:Tok 7:=nxT 6 tok;rw [←hw5.out];refine Ap rfl 28 (.tmp 29) rfl pb 10 rfl 39 Cx #[.bool n1.b1,.slice n1.a1 n1.n1 n1.c1,.bool n1.b2,.slice n1.a2 n1.n2 n1.c2] (0,0) _ (ZP.out _ hx5.out) e10.out Tryz.underlying28 rfl (by kernel_rfl) ?_)
  | (replace tok:Tok 8:=nxT 7 tok;refine wpList_load_row (by rfl) 28 (.tmp 7) rfl w4.heap.size rfl 28 #[.bool f.b1,.slice f.a1 f.n1 f.c1,.bool f.b2,.slice f.a2 f.n2 f.c2] (0,0) _ z5.out Tryz.underlying28 rfl (by kernel_rfl) ?_)
  | (replace tok:Tok 9:=nxT 8 tok;go_at_call 163;refine (KC.out _ _ hx5.out hb5.out).mono ?_;rintro e w6 ⟨rfl,hx6⟩;(replace hx6:=mK (hx5.out.trans hx6))))
 first|go_ret|go_ret2
 exact ⟨rfl,hE2.out.trans hx6.out⟩
theorem Agq (x:PVd)(pb:Nat)(w:World)(zp:w.heap[pb]? = some (.cells (pfC x) 39 (0,0)))(h:LPf w x lX) :
  Calls Tryz.prog 160 #[.agg (pfC x),.func (Fn.func 162) #[] #[.pointer (some ⟨pb,0,none⟩)]] w fun e w'=>e=.returned (.tuple #[.bool false,.int .i64 0])∧Ext w w':=by
 obtain ⟨os,hos,hL⟩:=h.be;obtain ⟨a,c,es,-⟩:=hL.slice;have KZ:=mK (fun v W (e:Ext w W) k=>Afp v pb x W (e.blk zp) k (h.ext e));obtain ⟨o1,o2,-⟩:=h.one;obtain ⟨Cx,hCx⟩:=nmE (pfC x);rw [←hCx] at o1 o2 ⊢;obtain ⟨w2,hw2⟩:=nmE (w.alloc (.cells Cx 39));have hE2:=aLe1 hw2;have z0:=aL10 hw2;have y0:w2.cell? ⟨w.heap.size,1,none⟩=some (.slice a os.length c):=(Al z0 1).trans (by rw [hCx,←es];rfl);rw [hw2] at y0;have KM:=mK (Rx (.slice a os.length c) os w2 (es ▸ hL.ext (fun _ _ k=>k.ext hE2) hE2) hos);replace hw2:=mK hw2;replace hE2:=mK hE2;replace hCx:=mK hCx;clear h hL es z0 zp hos;go_enter Tryz.func160,Tryz.ntmps160;have tok:Tok 0:=.mk _
 go_wp2_with (first
  | (replace tok:Tok 1:=nxT 0 tok;go_at_call 105;rw [←hw2.out];refine KM.out.mono ?_;rintro e w3 ⟨v,rfl,hx3,hm⟩;(obtain ⟨m1,m2,m3,m4,rfl,hm1,hm2,hm3,hm4⟩:=id hm);(obtain ⟨w4,hw4⟩:=nmE (w3.alloc (.cells #[.bool m1.b1,.slice m1.a1 m1.n1 m1.c1,.bool m1.b2,.slice m1.a2 m1.n2 m1.c2,.bool m2.b1,.slice m2.a1 m2.n1 m2.c1,.bool m2.b2,.slice m2.a2 m2.n2 m2.c2,.bool m3.b1,.slice m3.a1 m3.n1 m3.c1,.bool m3.b2,.slice m3.a2 m3.n2 m3.c2,.bool m4.b1,.slice m4.a1 m4.n1 m4.c1,.bool m4.b2,.slice m4.a2 m4.n2 m4.c2] 140)));(have z4:w4.heap[w3.heap.size]? = some (.cells #[.bool m1.b1,.slice m1.a1 m1.n1 m1.c1,.bool m1.b2,.slice m1.a2 m1.n2 m1.c2,.bool m2.b1,.slice m2.a1 m2.n1 m2.c1,.bool m2.b2,.slice m2.a2 m2.n2 m2.c2,.bool m3.b1,.slice m3.a1 m3.n1 m3.c1,.bool m3.b2,.slice m3.a2 m3.n2 m3.c2,.bool m4.b1,.slice m4.a1 m4.n1 m4.c1,.bool m4.b2,.slice m4.a2 m4.n2 m4.c2] 140 (0,0)):=by rw [hw4];exact heap_alloc_new _ _);(have hx4:=mK (show Ext w w4 by rw [hw4];exact (hE2.out.trans hx3).al _));(have hm4':=mK (show M4R w4 (.agg #[.bool m1.b1,.slice m1.a1 m1.n1 m1.c1,.bool m1.b2,.slice m1.a2 m1.n2 m1.c2,.bool m2.b1,.slice m2.a1 m2.n1 m2.c1,.bool m2.b2,.slice m2.a2 m2.n2 m2.c2,.bool m3.b1,.slice m3.a1 m3.n1 m3.c1,.bool m3.b2,.slice m3.a2 m3.n2 m3.c2,.bool m4.b1,.slice m4.a1 m4.n1 m4.c1,.bool m4.b2,.slice m4.a2 m4.n2 m4.c2]) (lM 2) from MtR.ext (MtO.r hm) (show Ext w3 w4 by rw [hw4];exact (xR w3).al _)));(replace z4:=mK z4);(replace hw4:=mK hw4);clear hm hm1 hm2 hm3 hm4 hx3)
  | (replace tok:Tok 2:=nxT 1 tok;rw [←hw4.out];refine wpList_load_row (by rfl) 140 (.tmp 6) rfl w3.heap.size rfl 140 #[.bool m1.b1,.slice m1.a1 m1.n1 m1.c1,.bool m1.b2,.slice m1.a2 m1.n2 m1.c2,.bool m2.b1,.slice m2.a1 m2.n1 m2.c1,.bool m2.b2,.slice m2.a2 m2.n2 m2.c2,.bool m3.b1,.slice m3.a1 m3.n1 m3.c1,.bool m3.b2,.slice m3.a2 m3.n2 m3.c2,.bool m4.b1,.slice m4.a1 m4.n1 m4.c1,.bool m4.b2,.slice m4.a2 m4.n2 m4.c2] (0,0) _ z4.out Tryz.underlying140 rfl (by kernel_rfl) ?_)
  | (replace tok:Tok 3:=nxT 2 tok;go_at_call 162;refine (KZ.out _ _ hx4.out hm4'.out).mono ?_;rintro e w5 ⟨rfl,hx5⟩;(replace hx5:=mK (hx4.out.trans hx5))))
 first|go_ret|go_ret2
 exact ⟨rfl,hx5.out⟩
theorem Agp (x:PVd)(tb:Nat)(w:World)(zt:w.heap[tb]? = some (.cells #[.func (Fn.func 160) #[] #[]] 179 (0,0)))(h:LPf w x lX) :
  Calls Tryz.prog 161 #[.agg (pfC x),.pointer (some ⟨tb,0,none⟩)] w fun e w'=>e=.returned (.tuple #[.bool false,.int .i64 0])∧Ext w w':=by
 obtain ⟨o1,o2,-⟩:=h.one;obtain ⟨Cx,hCx⟩:=nmE (pfC x);rw [←hCx] at o1 o2 ⊢;obtain ⟨w2,hw2⟩:=nmE (w.alloc (.cells Cx 39));have hE2:=aLe1 hw2;have z0:=aL10 hw2;have y0:w2.cell? ⟨tb,0,none⟩=some (.func (Fn.func 160) #[] #[]):=Al (hE2.blk zt) 0;rw [hw2] at y0;have KZ:=Agq x w.heap.size w2 (by rw [←hCx];exact z0) (h.ext hE2);rw [←hCx] at KZ;replace KZ:=mK KZ;replace z0:=mK z0;replace hw2:=mK hw2;replace hE2:=mK hE2;replace hCx:=mK hCx;clear h zt;go_enter Tryz.func161,Tryz.ntmps161;have tok:Tok 0:=.mk _
 go_wp2_with (first
  | (replace tok:Tok 1:=nxT 0 tok;rw [←hw2.out];refine wpList_load_row (by rfl) 39 (.tmp 2) rfl w.heap.size rfl 39 Cx (0,0) _ z0.out Tryz.underlying39 rfl (by rw [o2];kernel_rfl) ?_)
  | (replace tok:Tok 2:=nxT 1 tok;go_at_call 160;refine KZ.out.mono ?_;rintro e w3 ⟨rfl,hx3⟩;(replace hx3:=mK hx3)))
 first|go_ret|go_ret2
 exact ⟨rfl,hE2.out.trans hx3.out⟩
abbrev soF1 (tb:Nat):Value:=.func (Fn.func 161) #[] #[.pointer (some ⟨tb,0,none⟩)]
abbrev soF2 (tb:Nat):Value:=.func (Fn.func 164) #[] #[.pointer (some ⟨tb,0,none⟩)]
abbrev soF3:Value:=.func (Fn.func 168) #[] #[]
def soD (tb:Nat):DataW Value:=(((DataW.map []).put (.int .u8 1) (.held (soF1 tb))).put (.int .u8 2) (.held (soF2 tb))).put (.int .u8 3) (.held soF3)
theorem Afo (tb:Nat)(z:Value):(soD tb).atKey (.int .u8 1) (.held z)=.held (soF1 tb):=by rfl
theorem Acu (w:World):(zeroValue 146).run Tryz.prog w=.ok .nilFunc w:=by kernel_rfl
theorem Pt:Maps.Keyed Tryz.prog 22:=Maps.int_keyed Tryz.underlying22
def SoM (w:World)(M tb:Nat):Prop:=w.ownsMap Tryz.prog 22 hldN M 3 (soD tb)∧w.heap[tb]? = some (.cells #[.func (Fn.func 160) #[] #[]] 179 (0,0))
theorem SoM.look {w:World}{M tb:Nat}(h:SoM w M tb):(Instr.lookup 147 (.map (some M)) (.int .u8 1) false).run Tryz.prog w=.ok (soF1 tb) w:=by
 obtain ⟨v,ps,h1,h2⟩:=World.ownsMap.lookup h.1 Pt Tryz.underlying147 (Acu w) (zd:=.held .nilFunc) rfl (Maps.keyOf_int_mk (a:=1) Tryz.underlying22 (by decide));have h3:=Sb h2;rw [Afo] at h3;cases h3;exact h1
theorem SoM.ext {w w':World}{M tb:Nat}(h:SoM w M tb)(e:Ext w w'):SoM w' M tb:=by
 obtain ⟨⟨a,clock,hb,r⟩,h2⟩:=h;exact ⟨⟨a,clock,e.blk hb,r⟩,e.blk h2⟩
theorem so_c (w:World):Calls Tryz.prog 110 #[] w fun e w'=>∃ M tb,e=.returned (.map (some M))∧Ext w w'∧SoM w' M tb:=by
 obtain ⟨w1,hw1⟩:=nmE (w.alloc (.cells #[.func (Fn.func 160) #[] #[]] 179));have hE1:=aLe1 hw1;have z1:=aL10 hw1;have hsz:=aLs1 hw1;have hEm:Ext w1 (w1.alloc (.map #[] 0)):=(xR w1).al _;have hM0:(w1.alloc (.map #[] 0)).ownsMap Tryz.prog 22 hldN (w.heap.size+1) 0 (.map []):=by rw [←hsz];exact World.ownsMap_made w1 _ _ _
 have hmm:=@run_makeMap Tryz.prog;obtain ⟨w2,r1,o1,g1⟩:=hM0.update Pt Tryz.underlying147 (by unfold maxLen;omega) (Maps.keyOf_int_mk (a:=1) Tryz.underlying22 (by decide)) (val:=soF1 w.heap.size) (d:=.held (soF1 w.heap.size)) (ps:=[]) rfl;obtain ⟨w3,r2,o2,g2⟩:=o1.update Pt Tryz.underlying147 (by unfold maxLen;omega) (Maps.keyOf_int_mk (a:=2) Tryz.underlying22 (by decide)) (val:=soF2 w.heap.size) (d:=.held (soF2 w.heap.size)) (ps:=[]) rfl;obtain ⟨w4,r3,o3,g3⟩:=o2.update Pt Tryz.underlying147 (by unfold maxLen;omega) (Maps.keyOf_int_mk (a:=3) Tryz.underlying22 (by decide)) (val:=soF3) (d:=.held soF3) (ps:=[]) rfl;have hl:∀ k,some (w.heap.size+1)=some k→w1.heap.size≤k:=fun k e=>by cases e;exact Nat.le_of_eq hsz
 have hE4:Ext w1 w4:=((hEm.gr g1 hl).gr g2 hl).gr g3 hl;have hFin:=mK (show SoM w4 (w.heap.size+1) w.heap.size from ⟨o3,hE4.blk z1⟩);replace hE4:=mK (hE1.trans hE4);rw [hw1] at r1;clear hM0 o1 o2 o3 g1 g2 g3 hl hEm z1 hE1 hsz hw1;go_enter Tryz.func110,Tryz.ntmps110;go_wp2_with fail;go_ret
 first
  | exact ⟨_,rfl,hE4.out,w.heap.size,hFin.out⟩
  | exact ⟨_,_,rfl,hE4.out,hFin.out⟩
  | exact ⟨_,rfl,hE4.out,_,hFin.out⟩
def SoV (w:World)(v:Value):Prop:=∃ M tb,v=.map (some M)∧SoM w M tb
def FnV (w:World)(v:Value):Prop:=∃ tb,v=soF1 tb∧w.heap[tb]? = some (.cells #[.func (Fn.func 160) #[] #[]] 179 (0,0))
theorem Afi {ss:List FSpec}(h:StableAll Ext ss):StableAll Ext (.pred SoV::ss):=⟨fun _ _ _ e h=>by obtain ⟨M,tb,e0,h1⟩:=h;exact ⟨M,tb,e0,h1.ext e⟩,h⟩
theorem Afk {ss:List FSpec}(h:StableAll Ext ss):StableAll Ext (.pred FnV::ss):=⟨fun _ _ _ e h=>by obtain ⟨tb,e0,h1⟩:=h;exact ⟨tb,e0,e.blk h1⟩,h⟩
theorem Aa6 (x:PVd)(w:World)(h:LPf w x lX) :
  Calls Tryz.prog 52 #[.agg (pfC x)] w fun e w'=>e=.returned (.int .i64 14)∧Ext w w':=by
 obtain ⟨o1,o2,-⟩:=h.one
 have hkd:(pfC x)[0]? = some (.int .u8 1):=by
  obtain ⟨s,f1,f2,f3,rfl⟩:=h.sh;rfl
 have KY:=fun W (e:Ext w W)=>Jx x _ W (h.ext e).any (by refine ⟨?_,?_,?_,?_⟩<;>simp [adB,lBe]);rw [h.may.1] at KY;have KZ:=fun W (e:Ext w W) tb z=>Agp x tb W z (h.ext e);obtain ⟨Cx,hCx⟩:=nmE (pfC x);rw [←hCx] at o1 o2 hkd KY KZ ⊢;obtain ⟨w2,hw2⟩:=nmE (w.alloc (.cells Cx 39));have hE2:=aLe1 hw2;have z0:=aL10 hw2;replace KY:=mK (KY w2 hE2);have Z0:=mK (fun W (e:Ext w2 W)=>e.blk z0);replace KZ:=mK (fun W (e:Ext w2 W) tb z=>KZ W (hE2.trans e) tb z);have y0:=mK (fun W (e:Ext w2 W)=>show W.cell? ⟨w.heap.size,0,none⟩=some (.int .u8 1) from (Al (e.blk z0) 0).trans hkd);replace hw2:=mK hw2;replace hE2:=mK hE2;clear h z0 hCx hkd;go_enter Tryz.func52,Tryz.ntmps52;have tok:Tok 0:=.mk _
 go_upto_region 3 with (first
  | (replace tok:Tok 1:=nxT 0 tok;rw [←hw2.out];refine wpList_load_row (by rfl) 39 (.tmp 1) rfl w.heap.size rfl 39 Cx (0,0) _ (Z0.out _ (xR _)) Tryz.underlying39 rfl (by rw [o2];kernel_rfl) ?_)
  | (replace tok:Tok 2:=nxT 1 tok;go_at_call 24;refine KY.out.mono ?_;rintro e w3 ⟨rfl,hx3⟩;(replace hx3:=mK hx3)))
 have Z3:=mK (fun W (e:Ext w3 W)=>Z0.out W (hx3.out.trans e));have Y3:=mK (fun W (e:Ext w3 W)=>y0.out W (hx3.out.trans e));have L3:=mK (fun W (e:Ext w3 W) tb z=>KZ.out W (hx3.out.trans e) tb z);have hE:=mK (hE2.out.trans hx3.out);clear tok KY KZ Z0 y0 hx3;apply Ak [.pred SoV,.val (.pointer (some ⟨w.heap.size,0,none⟩)),.val (.int .u8 1),.pred FnV,.val (.agg Cx),.val (.tuple #[.bool false,.int .i64 0]),.val (.tuple #[.bool false,.int .i64 0]),.val (.bool false),.val (.int .i64 0),.val (.bool false),.val (.int .i64 0)] (by kernel_rfl) (Afi (stable_vals _ (stable_vals _ (Afk (stable_vals _ (stable_vals _ (stable_vals _ (stable_vals _ (stable_vals _ (stable_vals _ (stable_vals (ss:=[]) _ trivial)))))))))));refine ⟨fun W hW hF=>?g0,fun v100=>?_⟩
 case g0=>
  clear hF;go_simp;refine (so_c W).mono ?_;rintro e w' ⟨M,tb,rfl,h1,h2⟩;exact ⟨_,rfl,h1,M,tb,rfl,h2⟩
 refine ⟨fun W hW _=>by go_simp;first|exact ⟨xR _,rfl⟩|exact xR _,?_⟩;refine ⟨?l2,?_⟩
 case l2=>
  intro W hW hF;have y:=Y3.out W hW;clear hF;go_simp
  first
   | exact ⟨xR _,rfl⟩
   | exact xR _
 refine ⟨fun W hW hF=>?g3,fun v103=>?_⟩
 case g3=>
  have d0:SoV W v100:=hF.1 (by kernel_rfl);clear hF;go_simp;refine no_implicit_lambda% (Exists.elim d0 fun M d1=>?_);refine no_implicit_lambda% (Exists.elim d1 fun tb d2=>?_);obtain ⟨e0,hS⟩:=d2;subst e0;clear d0 d1;have hl:=hS.look;have hz:=mK hS.2;clear hS;go_simp
  first
   | exact ⟨xR _,tb,rfl,hz.out⟩
   | exact ⟨_,rfl,xR _,tb,rfl,hz.out⟩
 refine ⟨?l4,?_⟩
 case l4=>
  intro W hW hF;have hr:=Z3.out W hW;clear hF;with_reducible refine Ad8 ?zhw 39 (.tmp 1) ?zho (w.heap.size) ?zhx 39 Cx (0,0) _ hr Tryz.underlying39 ?zhd ?zhi ?zh
  case zhw=>kernel_rfl
  case zho=>rfl
  case zhx=>kernel_rfl
  case zhd=>rfl
  case zhi=>rw [o2];kernel_rfl
  case zh=>exact ⟨xR _,rfl⟩
 refine ⟨?g5,?_⟩
 case g5=>
  intro W hW hF;have d0:FnV W v103:=hF.1 (by kernel_rfl);clear hF;go_simp;refine no_implicit_lambda% (Exists.elim d0 fun tb d2=>?_);obtain ⟨e0,hz⟩:=d2;subst e0;replace hz:=mK hz;clear d0;go_simp;refine (L3.out W hW tb hz.out).mono ?_;rintro e w' ⟨rfl,h1⟩
  first
   | exact ⟨_,rfl,h1,rfl⟩
   | exact ⟨rfl,h1⟩
 refine ⟨fun W hW _=>by go_simp;first|exact ⟨xR _,rfl⟩|exact xR _,?_⟩;refine ⟨fun W hW _=>by go_simp;first|exact ⟨xR _,rfl⟩|exact xR _,?_⟩;iterate 2 (refine ⟨fun W hW _=>by go_simp;first|exact ⟨xR _,rfl⟩|exact xR _,?_⟩)
 refine ⟨fun W hW _=>by go_simp;first|exact ⟨xR _,rfl⟩|exact xR _,fun W hW hF=>?fin⟩
 case fin=>
  have FE:=mK (hE.out.trans hW);clear hF hW;go_simp;go_wp2_with fail;go_ret;exact ⟨rfl,FE.out⟩
theorem ls2e {w:World}{g T:Nat}{k1 k2:Int}{p1 q1 p2 q2:FV}{a1 b1 a2 b2:Rat}(hz:w.heap[g]? = some (.cells #[.int .u8 k1,.bool p1.b1,.slice p1.a1 p1.n1 p1.c1,.bool p1.b2,.slice p1.a2 p1.n2 p1.c2,.bool q1.b1,.slice q1.a1 q1.n1 q1.c1,.bool q1.b2,.slice q1.a2 q1.n2 q1.c2,.int .u8 k2,.bool p2.b1,.slice p2.a1 p2.n1 p2.c1,.bool p2.b2,.slice p2.a2 p2.n2 p2.c2,.bool q2.b1,.slice q2.a1 q2.n1 q2.c1,.bool q2.b2,.slice q2.a2 q2.n2 q2.c2] T (0,0)))(h1:FracR w (.agg #[.bool p1.b1,.slice p1.a1 p1.n1 p1.c1,.bool p1.b2,.slice p1.a2 p1.n2 p1.c2]) a1)(h2:FracR w (.agg #[.bool q1.b1,.slice q1.a1 q1.n1 q1.c1,.bool q1.b2,.slice q1.a2 q1.n2 q1.c2]) b1)(h3:FracR w (.agg #[.bool p2.b1,.slice p2.a1 p2.n1 p2.c1,.bool p2.b2,.slice p2.a2 p2.n2 p2.c2]) a2)(h4:FracR w (.agg #[.bool q2.b1,.slice q2.a1 q2.n1 q2.c1,.bool q2.b2,.slice q2.a2 q2.n2 q2.c2]) b2) :
  Ls 9 EltR w (.slice (some ⟨g,0,none⟩) 2 2) [((⟨k1,a1,b1⟩:EL),.agg #[.int .u8 k1,.bool p1.b1,.slice p1.a1 p1.n1 p1.c1,.bool p1.b2,.slice p1.a2 p1.n2 p1.c2,.bool q1.b1,.slice q1.a1 q1.n1 q1.c1,.bool q1.b2,.slice q1.a2 q1.n2 q1.c2]),((⟨k2,a2,b2⟩:EL),.agg #[.int .u8 k2,.bool p2.b1,.slice p2.a1 p2.n1 p2.c1,.bool p2.b2,.slice p2.a2 p2.n2 p2.c2,.bool q2.b1,.slice q2.a1 q2.n1 q2.c1,.bool q2.b2,.slice q2.a2 q2.n2 q2.c2])]:=by
 refine Gl (os:=[((⟨k1,a1,b1⟩:EL),.agg #[.int .u8 k1,.bool p1.b1,.slice p1.a1 p1.n1 p1.c1,.bool p1.b2,.slice p1.a2 p1.n2 p1.c2,.bool q1.b1,.slice q1.a1 q1.n1 q1.c1,.bool q1.b2,.slice q1.a2 q1.n2 q1.c2]),((⟨k2,a2,b2⟩:EL),.agg #[.int .u8 k2,.bool p2.b1,.slice p2.a1 p2.n1 p2.c1,.bool p2.b2,.slice p2.a2 p2.n2 p2.c2,.bool q2.b1,.slice q2.a1 q2.n1 q2.c1,.bool q2.b2,.slice q2.a2 q2.n2 q2.c2])]) hz (fun z hz=>?_) (fun z hz=>?_)
 ·simp only [List.mem_cons,List.not_mem_nil,or_false] at hz
  rcases hz with rfl|rfl
  ·exact ⟨p1,q1,rfl,h1,h2⟩
  ·exact ⟨p2,q2,rfl,h3,h4⟩
 ·simp only [List.mem_cons,List.not_mem_nil,or_false] at hz
  rcases hz with rfl|rfl<;>rfl
theorem Ag4 (w:World)(hm:∀ W,Ext w W→Max0 W∧Tab10 W∧ErrA W):Calls Tryz.prog 10 #[.string lWrong] w fun e w'=>e=.returned (.tuple #[.agg (pfC zPV),.int .i64 5])∧Ext w w':=by
 refine (Jz lWrong w (by decide) hm).mono ?_;rintro e w' ⟨⟨f,x,d,h1,-⟩|⟨-,h2⟩,hx⟩
 ·rw [Ad0] at h1
  cases h1
 ·exact ⟨h2,hx⟩
theorem Ag3 (x:PVd)(w:World)(h:LPf w x lQ)(hT:∀ W,Ext w W→Tab10 W):Calls Tryz.prog 8 #[.agg (pfC x)] w fun e w'=>e=.returned (.tuple #[.string lText,.int .i64 0])∧Ext w w':=by
 refine (Hg x _ lPf w h.any (by refine ⟨?_,?_,?_,?_⟩<;>simp [adB,lBe]) h.may.1 h.pf Af3 hT).mono ?_;rintro e w' ⟨h1,h2⟩;rw [Af2] at h1;rw [if_pos (by decide)] at h1;exact ⟨h1,h2⟩
theorem l_of (n d:Int)(q:Rat)(w:World)(h0:-1000≤n)(h1:n<1000)(h2:-1000≤d)(h3:d<1000)(hd:d≠0)(hq:Rat.divInt n d=q) :
  Calls Tryz.prog 50 #[.int .i64 n,.int .i64 d] w fun e w'=>∃ f:FV,e=.returned (.agg #[.bool f.b1,.slice f.a1 f.n1 f.c1,.bool f.b2,.slice f.a2 f.n2 f.c2])∧Ext w w'∧FracR w' (.agg #[.bool f.b1,.slice f.a1 f.n1 f.c1,.bool f.b2,.slice f.a2 f.n2 f.c2]) q:=by
 refine (Afu n d w (by omega) (by omega) (by omega) (by omega) hd).mono ?_;rintro e w' ⟨v,rfl,hx,hf⟩;obtain ⟨f,rfl⟩:=hf.fv;rw [hq] at hf;exact ⟨f,rfl,hx,hf.frac.1⟩
theorem Afn {b:Nat}{w:World}{v:Value}{f3:FV}(h:StV b w v f3)(h3:FracR w (.agg #[.bool f3.b1,.slice f3.a1 f3.n1 f3.c1,.bool f3.b2,.slice f3.a2 f3.n2 f3.c2]) lQ):∃ (s:Value) (f1 f2:FV),v=.agg (pfC (Bp (pvB 1 f1 f2 f3 0) s))∧LPf w (Bp (pvB 1 f1 f2 f3 0) s) lQ:=by
 obtain ⟨s,f1,f2,ns,e0,e1,h1,h2,h4⟩:=h;have hl:=h1.ls;exact ⟨s,f1,f2,e0,⟨ns,e1,⟨hl.at',fun x hx=>(hl.it x hx).r,hl.sz⟩⟩,h2.r,h4.r,h3,nfQ,s,f1,f2,f3,rfl⟩
theorem stX {w w' w4:World}{s:Value}{f1 f2 f3 f7:FV}{g:Nat}(h:LPf w (Bp (pvB 1 f1 f2 f3 0) s) lQ)(he:Ext w w4)(hg:w.heap.size≤g)(hb:w4.heap[g]? = some (.cells (pfC (Bp (pvB 1 f1 f2 f3 0) s)) 39 (0,0)))(h7:FracR w4 (.agg #[.bool f7.b1,.slice f7.a1 f7.n1 f7.c1,.bool f7.b2,.slice f7.a2 f7.n2 f7.c2]) lX)
  (hw:w'=w4.setRow g (pfC (Bp (pvB 1 f1 f2 f7 0) s))):LPf w' (Bp (pvB 1 f1 f2 f7 0) s) lX:=by
 have hx:Ext w w':=by rw [hw];exact he.row hg _
 have h1:=h.ext hx;refine ⟨h1.be,h1.fy,h1.fu,?_,nfX,s,f1,f2,f7,rfl⟩;rw [hw];exact h7.fl (Fl.of_chg (lo:=0) (Aq w4 g _) fun k hk=>⟨Nat.zero_le _,by rw [hk];exact noL hb h.one.2.2⟩)
theorem Yu (w:World)(hm:∀ W,Ext w W→Max0 W∧Tab10 W∧ErrA W):Calls Tryz.prog 14 #[] w fun e w'=>e=.returned (.bool true)∧Ext w w':=by
 have KO1:=mK (fun W=>l_of 1 1 1 W (by decide) (by decide) (by decide) (by decide) (by decide) (by decide +kernel));have KO0:=mK (fun W=>l_of 0 1 0 W (by decide) (by decide) (by decide) (by decide) (by decide) (by decide +kernel));have KOX:=mK (fun W=>l_of 5 4 lX W (by decide) (by decide) (by decide) (by decide) (by decide) (by decide +kernel));have KD:=mK (fun W (e:Ext w W)=>Ag4 W fun V k=>hm V (e.trans k));have KE:=fun x W (e:Ext w W) h=>Ag3 x W h fun V k=>(hm V (e.trans k)).2.1;obtain ⟨T,hT⟩:=nmE lText;rw [←hT] at KE;replace KE:=mK KE;have hbeq:(T.toList==[115,116,97,121,115,32,49,32,48,32,52,47,51,32,115,112,97,99,101,32,49,32,108,101,110,115,32,49])=true:=by rw [ByteArray.toList_eq,hT];decide
 have KC:=mK Aa6;have KS:=mK Aa5;obtain ⟨zc,hzf⟩:=nmE (pfC zPV);have hzc:=hzf;simp only [pfC,zPV] at hzc;have hzn:zc.size=27:=by rw [hzf];rfl
 have hz1:zc.all (·.oneCell')=true:=by rw [hzf];simp [pfC,zPV,Value.oneCell']
 rw [←hzf] at KD;replace hzc:=mK hzc;replace hz1:=mK hz1;clear hm hzf hT;go_enter Tryz.func14,Tryz.ntmps14;have tok:Tok 0:=.mk _
 go_wp2_with (first
  | (replace tok:Tok 1:=nxT 0 tok;go_at_call 50;refine (KO1.out _).mono ?_;rintro e w1 ⟨f1,rfl,hx1,hf1⟩;(replace hx1:=mK hx1);(replace hf1:=mK hf1))
  | (replace tok:Tok 2:=nxT 1 tok;go_at_call 50;refine (KO0.out _).mono ?_;rintro e w2 ⟨f2,rfl,hx2,hf2⟩;(replace hx2:=mK hx2);(replace hf2:=mK hf2))
  | (replace tok:Tok 3:=nxT 2 tok;go_at_call 50;refine (KO1.out _).mono ?_;rintro e w3 ⟨f3,rfl,hx3,hf3⟩;(replace hx3:=mK hx3);(replace hf3:=mK hf3))
  | (replace tok:Tok 4:=nxT 3 tok;go_at_call 50;refine (KO0.out _).mono ?_;rintro e w4 ⟨f4,rfl,hx4,hf4⟩;(obtain ⟨w5,hw5⟩:=nmE (w4.alloc (.cells #[.int .u8 1,.bool f1.b1,.slice f1.a1 f1.n1 f1.c1,.bool f1.b2,.slice f1.a2 f1.n2 f1.c2,.bool f2.b1,.slice f2.a1 f2.n1 f2.c1,.bool f2.b2,.slice f2.a2 f2.n2 f2.c2,.int .u8 2,.bool f3.b1,.slice f3.a1 f3.n1 f3.c1,.bool f3.b2,.slice f3.a2 f3.n2 f3.c2,.bool f4.b1,.slice f4.a1 f4.n1 f4.c1,.bool f4.b2,.slice f4.a2 f4.n2 f4.c2] 72)));(have hL:=mK (show Ls 9 EltR w5 (.slice (some ⟨w4.heap.size,0,none⟩) 2 2) [((⟨1,1,0⟩:EL),.agg #[.int .u8 1,.bool f1.b1,.slice f1.a1 f1.n1 f1.c1,.bool f1.b2,.slice f1.a2 f1.n2 f1.c2,.bool f2.b1,.slice f2.a1 f2.n1 f2.c1,.bool f2.b2,.slice f2.a2 f2.n2 f2.c2]),((⟨2,1,0⟩:EL),.agg #[.int .u8 2,.bool f3.b1,.slice f3.a1 f3.n1 f3.c1,.bool f3.b2,.slice f3.a2 f3.n2 f3.c2,.bool f4.b1,.slice f4.a1 f4.n1 f4.c1,.bool f4.b2,.slice f4.a2 f4.n2 f4.c2])] by (have e4:Ext w4 w5:=by rw [hw5];exact (xR w4).al _);(have e3:=hx4.trans e4);(have e2:=hx3.out.trans e3);exact ls2e (by rw [hw5];exact heap_alloc_new _ _) (hf1.out.ext (hx2.out.trans e2)) (hf2.out.ext e2) (hf3.out.ext e3) (hf4.ext e4)));(have hx5:=mK (show Ext w w5 by rw [hw5];exact (hx1.out.trans (hx2.out.trans (hx3.out.trans hx4))).al _));(replace hw5:=mK hw5);clear hf1 hf2 hf3 hf4 hx1 hx2 hx3 hx4)
  | (replace tok:Tok 5:=nxT 4 tok;go_at_call 50;rw [←hw5.out];refine (KO1.out _).mono ?_;rintro e w6 ⟨f5,rfl,hx6,hf5⟩;(replace hx6:=mK hx6);(replace hf5:=mK hf5))
  | (replace tok:Tok 6:=nxT 5 tok;go_at_call 50;refine (KO0.out _).mono ?_;rintro e w7 ⟨f6,rfl,hx7,hf6⟩;(have hr:=mK (show RyR w7 (.agg #[.bool f5.b1,.slice f5.a1 f5.n1 f5.c1,.bool f5.b2,.slice f5.a2 f5.n2 f5.c2,.bool f6.b1,.slice f6.a1 f6.n1 f6.c1,.bool f6.b2,.slice f6.a2 f6.n2 f6.c2]) 1 0 from ⟨f5,f6,rfl,hf5.out.ext hx7,hf6⟩));(have hL7:=mK (hL.out.ext (fun _ _ k=>k.ext (hx6.out.trans hx7)) (hx6.out.trans hx7)));(replace hx7:=mK (hx5.out.trans (hx6.out.trans hx7)));clear hf5 hf6 hx6 hL hx5)
  | (replace tok:Tok 7:=nxT 6 tok;go_at_call 51;refine (KS.out _ _ _ _ hL7.out rfl hr.out).mono ?_;rintro e w8 ⟨v,f7,rfl,hx8,hv,hf7⟩;(obtain ⟨s,g1,g2,rfl,hp⟩:=Afn hv hf7.r);(have ho:=hp.one);(obtain ⟨Cx,hCx⟩:=nmE (pfC (Bp (pvB 1 g1 g2 f7 0) s)));(have hcn:Cx.size=27:=by rw [hCx];rfl);(have hc1:=mK (show Cx.all (·.oneCell')=true by rw [hCx];exact ho.1));(rw [←hCx]);(replace hCx:=mK hCx);(replace hp:=mK hp);(replace hx8:=mK (hx7.out.trans hx8));clear hv hf7 ho hr hL7 hx7)
  | (replace tok:Tok 8:=nxT 7 tok;rw [←hzc.out];refine wpList_store_row rfl 39 (.tmp 2) (.tmp 22) rfl w8.heap.size Cx rfl rfl 39 _ (heap_alloc_new _ _) (by rw [hcn];kernel_rfl) (by rw [hcn,hzn]) hc1.out ?_;(obtain ⟨w9,hw9⟩:=nmE ((w8.alloc (.cells zc 39)).setRow w8.heap.size Cx));(have z9:w9.heap[w8.heap.size]? = some (.cells Cx 39 (0,0)):=by rw [hw9];exact setRow_heap _ _ _ _ _ _ (heap_alloc_new _ _));(have hx89:Ext w8 w9:=by rw [hw9];exact ((xR w8).al _).row (nR _) _);(rw [←hw9]);(have hx9:=mK (hx8.out.trans hx89));(have hp9:=mK (hp.out.ext hx89));(replace hx89:=mK hx89);(replace z9:=mK (fun W (e:Ext w9 W)=>e.blk z9));clear hw9)
  | (replace tok:Tok 9:=nxT 8 tok;refine wpList_load_row (by rfl) 39 (.tmp 2) rfl w8.heap.size rfl 39 Cx (0,0) _ (z9.out _ (xR _)) Tryz.underlying39 rfl (by rw [hcn];kernel_rfl) ?_)
  | (replace tok:Tok 10:=nxT 9 tok;go_at_call 8;(have KE9:=KE.out _ _ hx9.out hp9.out);(rw [←hCx.out] at KE9);refine KE9.mono ?_;rintro e w10 ⟨rfl,hx10⟩;(replace hx10:=mK hx10);clear KE9)
  | (replace tok:Tok 11:=nxT 10 tok;go_at_call 50;refine (KOX.out _).mono ?_;rintro e w11 ⟨f8,rfl,hx11,hf8⟩;(obtain ⟨Cy,hCy⟩:=nmE (pfC (Bp (pvB 1 g1 g2 f8 0) s)));(have hyn:Cy.size=27:=by rw [hCy];rfl);(have hst:Cy=(Cx.toList.take 10++(#[.bool f8.b1,.slice f8.a1 f8.n1 f8.c1,.bool f8.b2,.slice f8.a2 f8.n2 f8.c2]:Array Value).toList++Cx.toList.drop (10+(#[.bool f8.b1,.slice f8.a1 f8.n1 f8.c1,.bool f8.b2,.slice f8.a2 f8.n2 f8.c2]:Array Value).size)).toArray:=by rw [hCy,hCx.out];rfl);(have z11:=z9.out _ (hx10.out.trans hx11));(obtain ⟨w12,hw12⟩:=nmE (w11.setRow w8.heap.size Cy));(have hx811:=hx89.out.trans (hx10.out.trans hx11));(have hp12:=mK (show LPf w12 (Bp (pvB 1 g1 g2 f8 0) s) lX from stX hp.out hx811 (nR _) (by rw [←hCx.out];exact z11) hf8 (by rw [hw12,hCy])));(have hx12:=mK (show Ext w w12 by rw [hw12];exact (hx8.out.trans hx811).row hx8.out.size _));(have z12:=mK (show w12.heap[w8.heap.size]? = some (.cells Cy 39 (0,0)) by rw [hw12];exact setRow_heap _ _ _ _ _ _ z11));(replace z11:=mK z11);(replace hw12:=mK hw12);(replace hst:=mK hst);(replace hCy:=mK hCy);clear hx811 hf8 hx11)
  | (replace tok:Tok 12:=nxT 11 tok;refine Bg rfl 28 (.tmp 30) (.tmp 29) rfl w8.heap.size 10 rfl 39 Cx Cy #[.bool f8.b1,.slice f8.a1 f8.n1 f8.c1,.bool f8.b2,.slice f8.a2 f8.n2 f8.c2] rfl z11.out (by kernel_rfl) (by rw [hcn];simp) hst.out (by kernel_rfl) ?_;rw [←hw12.out])
  | (replace tok:Tok 13:=nxT 12 tok;refine wpList_load_row (by rfl) 39 (.tmp 2) rfl w8.heap.size rfl 39 Cy (0,0) _ z12.out Tryz.underlying39 rfl (by rw [hyn];kernel_rfl) ?_)
  | (replace tok:Tok 14:=nxT 13 tok;go_at_call 52;(have KC12:=KC.out _ _ hp12.out);(rw [←hCy.out] at KC12);refine KC12.mono ?_;rintro e w13 ⟨rfl,hx13⟩;(replace hx13:=mK (hx12.out.trans hx13));clear KC12)
  | (replace tok:Tok 15:=nxT 14 tok;go_at_call 10;refine (KD.out _ hx13.out).mono ?_;rintro e w14 ⟨rfl,hx14⟩;(replace hx14:=mK (hx13.out.trans hx14)))
  | (replace tok:Tok 16:=nxT 15 tok;rw [←hzc.out];refine wpList_store_row rfl 39 (.tmp 7) (.tmp 35) rfl w14.heap.size zc rfl rfl 39 _ (heap_alloc_new _ _) (by rw [hzn];kernel_rfl) rfl hz1.out ?_))
 go_ret;exact ⟨rfl,(hx14.out.al _).row hx14.out.size _⟩
end Go.Proofs.YtlknpnommcohkaaGreatDoor
namespace Go.Proofs.YtlknpnommcohkaaGreatDoor
set_option maxRecDepth 100000
open Go Go.ChangeShapes Go.WideShapes Go.ChangeAt Go.RowKit Go.Joins Go.Deep
theorem Yd:ownKnob Tryz.prog.godebug=none:=by kernel_rfl
section
variable {H:Type} {enc:TypeId×Value→H}
theorem Mx {a:Assume}{C:Checked}{os:Os}{f:FuncId}{fn:Func}{s:ChangeSpec}{conds:List PathCond}{apart fresh handsOn again:Bool}{X:World→Array Value→Prop}
  (hX:∀ (w w':World) (args:Array Value),w.heap=w'.heap→X w args→X w' args) (own:ownKnob C.prog.godebug=none) (started:os.Started) (noInit:C.prog.inits.idxOf? f=none) (hfn:C.prog.funcs[f]? = some fn)
  (witness:∃ (w:World) (tape:Tape) (i:Input),w.os=os∧(w.forCall tape i).Shaped C.prog∧i.vars=[]∧Input.okWide C.prog (w.forCall tape i) .any w.heap.size f i ∧
   ((s.pre enc C.prog fn conds apart (w.forCall tape i).memory i.args∧X (w.forCall tape i).memory i.args)∧sizedMet enc C.prog fn (OpenSpec.ofChange s) apart (w.forCall tape i).memory i.args)∧a.holds C.prog (lone (Frame.enter C.prog f i.args .normal) [] (w.forCall tape i)))
  (contract:∀ (W:World) (base:Nat) (args:Array Value) (ds gs:List (DataW H)) (before:List MemPlace),(∀ (j:Nat) t v,fn.params[j]? = some t→args[j]? = some v→Value.okWide C.prog W .any base t v) →
   DataW.Whole enc C.prog fn.params.toList s.vars apart W args.toList ds gs before→conds.all (PathCond.test C.prog ⟨fn.params.toList,ds,s.plain.varTypes C.prog,gs⟩)=true →
   (DataW.weightsEach C.prog (fn.params.toList++s.plain.varTypes C.prog) (ds++gs)).all (·≤reachBytes)=true→X W args→W.ShapedOpen C.prog→a.holds C.prog (lone (Frame.enter C.prog f args .normal) [] W) →
   Calls C.prog f args W fun e W'=>∃ v,e=.returned v∧s.post enc C.prog fn apart fresh handsOn again W args v W') :
  ReturnsInHanded a C os f .any (fun w args=>(s.pre enc C.prog fn conds apart w args∧X w args)∧sizedMet enc C.prog fn (OpenSpec.ofChange s) apart w args) (s.post enc C.prog fn apart fresh handsOn again):=by
 refine returnsInHanded_of_calls own started noInit witness fun w tape i _ hsh _ hok hpre hh=>?_;have hval:=hok;obtain ⟨_,_,_,fn1,e1,_,_,_,_,hv⟩:=hval;obtain rfl:fn1=fn:=Option.some.inj (e1.symm.trans hfn);obtain ⟨⟨⟨ds,gs,before,hw,hc⟩,hx⟩,hz⟩:=hpre;have key:=contract (w.forCall tape i) w.heap.size i.args ds gs before hv (DataW.Whole.of_heap (w':=w.forCall tape i) (by rfl) hw) hc (hz.weights hw) (hX _ _ _ (by rfl) hx) hsh hh;refine key.mono ?_;rintro e W' ⟨v,rfl,hp⟩;exact ChangeSpec.post_blind hp
end
theorem Adr {W:World}(h:W.ShapedOpen Tryz.prog):Max0 W:=by
 obtain ⟨m,hm⟩:=cell_of_shapedOpen_int (P:=Tryz.prog) (w:=W) (g:=1) (t:=3) (zero:=#[.int .i64 0]) (k:=.i64) h (of_decide_eq_true (by kernel_rfl)) (by kernel_rfl) rfl (by kernel_rfl) (by kernel_rfl) Tryz.underlying3;exact ⟨m,hm⟩
theorem Ta:(Rows.laid_internal_strconv_uint64pow10:DataW Unit)=Lib.tabData .u64 Lib.pow10Tab:=by kernel_rfl
theorem Aah {W:World}(h:laidMetH Tryz.prog Rows.proofBackRow.laid W):Tab10 W:=by
 rw [MakeChecks.laidMetH_plain _ _ _ (by kernel_rfl)] at h;obtain ⟨ps,⟨_,_,_,_,_,_,_,_,_,_,h2,_⟩,_⟩:=h;obtain ⟨_,_,_,_,_,_,_,_,_,_,h3,_⟩:=h2;obtain ⟨g,t,cs,fuel,p,q,hg,hty,hvar,hd,_,_⟩:=h3;obtain rfl:=Option.some.inj ((show Tryz.prog.globalNamed "internal/strconv.uint64pow10" = some 0 by kernel_rfl).symm.trans hg);rw [Ta] at hd;obtain rfl:=Option.some.inj ((show (Tryz.prog.globals[0]?).map (·.type)=some 232 by kernel_rfl).symm.trans hty);have hc:=Lib.cells_of_tab Tryz.underlying232 Tryz.underlying189 (by kernel_rfl) (by kernel_rfl) hd;show W.var? Tryz.prog "internal/strconv.uint64pow10" = some _
 rw [hvar,←hc]
theorem Wt : "*" ++ "errors.errorString" = "*errors.errorString" :=by decide
theorem Aav (u:TypeId)(h:Tryz.prog.typeName? 3 u=some "*errors.errorString"):u=278:=
 typeName_ptr_named (nm := "errors.errorString") (by rw [Wt];kernel_rfl) (by kernel_rfl) (by decide) u (by rw [Wt];exact h)
theorem Aeb {W:World}(h:laidMetH Tryz.prog Rows.proofBackRow.laid W):ErrA W:=by
 rw [MakeChecks.laidMetH_plain _ _ _ (by kernel_rfl)] at h;have h4:=h.tail.tail.tail.tail;have h5:=h4.tail;obtain ⟨a1,s1,hv1,-⟩:=laid_sentinel h4 (show Tryz.prog.globalNamed "strconv.ErrRange" = some 3 by kernel_rfl) (show (Tryz.prog.globals[3]?).map (·.type)=some 110 by kernel_rfl) Tryz.underlying110 Aav Tryz.underlying278 Tryz.underlying280 rfl rfl Tryz.underlying9 (by kernel_rfl) (by kernel_rfl);obtain ⟨a2,s2,hv2,-⟩:=laid_sentinel h5 (show Tryz.prog.globalNamed "strconv.ErrSyntax" = some 2 by kernel_rfl) (show (Tryz.prog.globals[2]?).map (·.type)=some 110 by kernel_rfl) Tryz.underlying110 Aav Tryz.underlying278 Tryz.underlying280 rfl rfl Tryz.underlying9 (by kernel_rfl) (by kernel_rfl);exact ⟨⟨_,_,hv2⟩,⟨_,_,hv1⟩⟩
theorem Qj {W:World}(h:laidMetH Tryz.prog Rows.proofBackRow.laid W):Tab10 W:=Aah h
theorem Pg (os:Os)(started:os.Started)(H:Type)(enc:TypeId×Value→H) :
  ReturnsInHanded {} Tryz.checked os 4 .any (fun w args=>(Rows.proofBackSpec.pre enc Tryz.prog Tryz.f4 [] false w args∧laidMetH Tryz.prog Rows.proofBackRow.laid w)∧sizedMet enc Tryz.prog Tryz.f4 (OpenSpec.ofChange Rows.proofBackSpec) false w args)
   (Rows.proofBackSpec.post enc Tryz.prog Tryz.f4 false true false false):=by
 refine Mx (C:=Tryz.checked) (X:=fun w _=>laidMetH Tryz.prog Rows.proofBackRow.laid w) (fun _ _ _ hh h=>h.of_heap hh) Yd started (by kernel_rfl) Tryz.func4
  (ChangeSpec.witness_shaped (enc:=enc) (C:=Tryz.checked) (os:=os) (X:=fun w _=>laidMetH Tryz.prog Rows.proofBackRow.laid w) false (World.laidAll Tryz.prog os Rows.proofBackRow.laid) #[.agg (pfC zPV),.string ⟨#[]⟩] 8 (World.laidAll_os _ _ _)
   (World.shaped_of_ZipB (by kernel_rfl) (by kernel_rfl)) (by kernel_rfl) (by kernel_rfl) (by kernel_rfl)
   (by rw [MakeChecks.laidMetH_plain _ _ _ (by kernel_rfl)];exact laidMet_laidAll _ (by kernel_rfl) (by kernel_rfl))) ?_
 intro W base args ds gs before hval0 hW _ hsz hlaid hsh _;have hW':=hW;obtain ⟨p,q,hA0,hV,rfl,hfz,hnd⟩:=hW;have hA:DataW.TrodAll enc Tryz.prog W 0 (fun _=>true) true Tryz.f4.params.toList args.toList ds p:=hA0;rw [Tryz.params4] at hA;obtain ⟨v0,v1,d0,d1,p0,p1,rfl,rfl,rfl,h0,h1⟩:=trodAll_two hA;obtain ⟨rfl,rfl⟩:=trodVars_none hV;have P3:Tryz.f4.params=#[39,9]:=Tryz.params4
 have hw0:∀ k∈d0.weights Tryz.prog 39,k≤reachBytes:=by
  intro k hk;have hz:=List.all_eq_true.1 hsz;rw [P3] at hz;exact of_decide_eq_true (hz k (DataW.weights_mem_each (j:=0) (t:=39) (d:=d0) rfl rfl k hk))
 obtain ⟨x,l1,l2,l3,l4,rfl,hR0⟩:=Aaz (hval0 0 39 v0 (by rw [P3];rfl) rfl) h0 hw0;have hlt0:∀ x∈p0,x.block<W.heap.size:=fun x hx=>hW'.lt x (by simp [hx]);obtain ⟨s,rfl,rfl,rfl,hsz1⟩:=Go.ChangeMaps.open_string Tryz.underlying9 (hval0 1 9 v1 (by rw [P3];rfl) rfl) h1
 have hs2:s.size≤140737488355328:=by
  have hz:=List.all_eq_true.1 hsz;rw [P3] at hz;have h2:s.data.toList.length≤reachBytes:=of_decide_eq_true (hz _ (DataW.weights_mem_each (j:=1) (t:=9) (d:=.lit (.string s.data.toList)) rfl rfl s.data.toList.length (by simp [DataW.weights])));have hsl:s.data.toList.length=s.size:=by rw [Array.length_toList];rfl
  rw [hsl] at h2;exact nT h2 (by decide)
 have hm:∀ V,Ext W V→Max0 V∧Tab10 V∧ErrA V:=fun V e=>⟨(Adr hsh).ext e,In (Qj hlaid) e,(Aeb hlaid).ext e⟩
 have key:Calls Tryz.prog 4 #[.agg (pfC x),.string s] W fun e w'=>e=.returned (.bool true)∧Ext W w':=Zr x l1 l2 l3 l4 s W hR0 hs2 hm fun V e=>Yu V fun V' e'=>hm V' (e.trans e');refine key.mono fun e W' h=>?_;obtain ⟨rfl,hE⟩:=h;refine ⟨_,rfl,_,_,_,[],p0++[],[],hW',trodAll_mk1 (shut_bool Tryz.underlying4 _),?_,rfl,hE.frame _,fun h=>by cases h⟩;have:Tryz.f4.params.toList=[39,9]:=by rw [P3]
 rw [this];exact trodAll_mk2 (Below.trod (by kernel_rfl) (by kernel_rfl) (of_decide_eq_true (by kernel_rfl)) h0 hE hlt0) (Go.ChangeMaps.shut_string Tryz.underlying9 hsz1)
theorem Ph:joinedFacts Tryz.pinned.checked.prog 4 Tryz.f4 Rows.proofBackSpec Rows.proofBackRow=true:=by kernel_rfl
theorem Ri:Tryz.pinned.checked.prog.funcNamed Rows.proofBackRow.func=some 4:=by kernel_rfl
theorem Tn:(Tryz.f4).isInstance Tryz.pinned.checked.prog Rows.proofBackRow.origin Rows.proofBackRow.targs:=of_decide_eq_true (by kernel_rfl)
theorem Tm:(Tryz.f4).isWrapper Tryz.pinned.checked.prog Rows.proofBackRow.wrapper Rows.proofBackRow.mainSum:=by unfold Func.isWrapper;first|(rw [if_pos (by decide +kernel)];kernel_rfl)|(rw [if_neg (by decide +kernel)];exact ⟨rfl,rfl⟩)
theorem Ya:Rows.ProofBackSaid:=
 OpenClaim.holds_of_wide 4 Tryz.f4 rfl rfl rfl rfl rfl rfl rfl ⟨rfl,rfl,rfl,rfl,rfl⟩ rfl rfl rfl rfl rfl Ri Tryz.func4 Ph
  Tn Tm
  (fun os started H enc _=>Pg os started H enc)
theorem pback_holds : Rows.ProofBackCardSaid :=
 Claim7.holds_tied_plain_at .later [] [.data,.data,.data,.data,.sentinel,.sentinel,.pinned] true (true, "af6bbdc6577af0e7226ed34777259e67c68647117f02e4270511e8ea304c1508") true
  Ya (fun _ h=>by cases h) (by kernel_rfl) (fun _ h=>by cases h) proofBack_row_tie rfl ⟨rfl,rfl⟩ (by kernel_rfl) rfl
  (fun f fn hf hfn=>by
   obtain rfl:f=4:=Option.some.inj ((show Tryz.prog.funcNamed "polestar/polestarlaw30.ProofBack" = some 4 by kernel_rfl).symm.trans hf) |>.symm
   obtain rfl:fn=Tryz.f4:=(Option.some.inj (Tryz.func4.symm.trans hfn)).symm
   exact ⟨by kernel_rfl,fun j t ht=>by
    rw [Tryz.params4] at ht
    have hm:t∈[39,9]:=by simpa using Array.mem_of_getElem? ht
    have hall:([39,9].all fun u=>!Tryz.prog.wantsStandIn u)=true:=by kernel_rfl
    exact (show Tryz.prog.wantsStandIn t=false by simpa using List.all_eq_true.1 hall t hm)⟩)
  (by kernel_rfl)
#print axioms pback_holds
end Go.Proofs.YtlknpnommcohkaaGreatDoor
