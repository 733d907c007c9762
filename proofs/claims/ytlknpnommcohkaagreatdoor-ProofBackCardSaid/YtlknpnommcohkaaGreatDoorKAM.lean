/-
  ratio.Read: the fraction of a text, or none. frac.Parse; catalog.number at a number's digits. proof's reader: a fraction is taken. DERIVED: THE SHELF's CONTRACTS AT THIS DUMP, IN PLAIN WORDS (tools/lay-plain.mjs out of 'YtlknpnommcohkaaGreatDoorAtoiCT.lean', which tools/lay-shelf.mjs wrote): THE SAME DECLARATIONS UNDER THE SAME NAMES: 'import', 'namespace', 'open', 'def', 'theorem' AND NOTHING ELSE: no command of the shelf's: FOR A HAND-IN. Each laying: the table of numbers ('.._ren') and one theorem, a field a fact of the dump's own or the kernel's comparison; each contract: ONE APPLICATION. proof's reader: a number is taken. proof: nought.
-/
import Derived.Test.YtlknpnommcohkaaGreatDoorKAL
import Derived.Test.YtlknpnommcohkaaGreatDoorKAG
import Derived.Shelf.Strconv.ErrVarAll
import Derived.Ground.NamesProg
import Derived.Test.YtlknpnommcohkaaGreatDoorProg
import Derived.Test.YtlknpnommcohkaaGreatDoorKAD
set_option maxHeartbeats 6400000
namespace Go.Proofs.YtlknpnommcohkaaGreatDoor
set_option maxRecDepth 100000
open Go Go.RowKit Go.Proofs
def RatQ (w:World)(o:Option Rat)(e:Ending)(w':World):Prop:=
 ∃ (f:FV) (b:Bool),e=.returned (.tuple #[.agg #[.bool f.b1,.slice f.a1 f.n1 f.c1,.bool f.b2,.slice f.a2 f.n2 f.c2],.bool b])∧Ext w w'∧(o=none∧b=false∨∃ x,o=some x∧b=true∧FracO w' w.heap.size (.agg #[.bool f.b1,.slice f.a1 f.n1 f.c1,.bool f.b2,.slice f.a2 f.n2 f.c2]) x)
theorem Ff {s:List UInt8}{X:Int}(h:Bz s=some X):nl X≤s.length:=by
 unfold Bz at h;split at h
 ·cases h
 ·cases hd:Lib.decFrom 0 (Dj s) with
  | none=>rw [hd] at h;cases h
  | some n=>
   rw [hd] at h;simp only [Option.map_some,Option.some.injEq] at h;have hn:=Lib.decFrom_lt _ _ _ hd;rw [Nat.zero_add,Nat.one_mul] at hn
   have hX:X.natAbs=n:=by
    subst h;unfold sg;split<;>omega
   unfold nl;rw [hX];have h1:(lim n).length≤(Dj s).length:=Cb (Nat.lt_of_lt_of_le hn (Nat.pow_le_pow_left (by decide) _))
   have h2:(Dj s).length≤s.length:=by
    unfold Dj;split
    ·rw [List.length_tail];omega
    ·exact nR _
   omega
theorem Vt (l:List UInt8):(⟨l.toArray⟩:ByteArray).size=l.length:=by
 show l.toArray.size=_
 rw [List.size_toArray]
theorem Fb (s:ByteArray):s.data.toList.length=s.size:=Array.length_toList
theorem Lw {s:List UInt8}(h:cutL 47 s=none):Dx s=(Bz s).map fun (n:Int)=>(n:Rat):=by
 unfold Dx;rw [h]
theorem Nm {s x y:List UInt8}(h:cutL 47 s=some (x,y)):Dx s=match Bz x,Bz y with
  | some n,some d=>if 1<d∧Int.gcd n d=1 then some (Rat.divInt n d) else none
  | _,_=>none:=by
 unfold Dx;rw [h];rfl
theorem Id (s:ByteArray)(w:World)(x y:ByteArray)(bc:Bool)(hx:x.size≤65536)
  (KC:∀ W,Ext w W→Calls Tryz.prog 196 #[.string s,.string ⟨#[47]⟩] W fun e w'=>e=.returned (.tuple #[.string x,.string y,.bool bc])∧Ext W w')
  (hf:bc=false∨Bz x.data.toList=none) :
  Calls Tryz.prog 139 #[.string s] w (RatQ w ((Bz x.data.toList).map fun (n:Int)=>(n:Rat))):=by
 obtain ⟨w1,hw1⟩:=nmE (w.alloc (.cells #[.bool false,.slice none 0 0,.bool false,.slice none 0 0] 28));have hE1:=mK (show Ext w w1 by rw [hw1];exact (xR w).al _);have z1:=mK (aL10 hw1);have hz2:=mK (show w1.heap.size=w.heap.size+1 by rw [hw1];simp);have KR:=mK (fun W=>Gi x W hx);replace KC:=mK KC;replace hw1:=mK hw1;generalize Bz x.data.toList=o at *;clear hx;cases bc with
 | false=>
  clear hf;go_enter Tryz.func139,Tryz.ntmps139;have tok:Tok 0:=.mk _
  go_wp2_with (first
   | (replace tok:Tok 1:=nxT 0 tok;go_at_call 196;rw [←hw1.out];refine (KC.out w1 hE1.out).mono ?_;rintro e w2 ⟨rfl,hx2⟩;(have hE2:=mK (hE1.out.trans hx2));(have z2:=mK (hx2.blk z1.out));(have hl1:=mK hx2.size);clear hx2)
   | (replace tok:Tok 2:=nxT 1 tok;go_at_call 197;refine (KR.out w2).mono ?_;rintro e w3 ⟨v,b,X,rfl,ho,hv,hx3⟩;skip;(obtain ⟨nb,na,nn,nc,rfl⟩:=hv.r.shape);(obtain ⟨w4,hw4⟩:=nmE (w3.alloc (.cells #[.bool nb,.slice na nn nc] 26)));(have hx4:Ext w3 w4:=by rw [hw4];exact (xR w3).al _);(have hE4:=mK ((hE2.out.trans hx3).trans hx4));(have z4:=mK ((hx3.trans hx4).blk z2.out));(have hv4:=mK (hv.ext hx4));(have hl4:=mK (nT hx3.size hx4.size));(have hl2:=mK hE2.out.size);replace ho:=mK ho;replace hw4:=mK hw4;clear hx3 hx4 hE2 z2 hE1 z1 hw1 hv)
   | (replace tok:Tok 3:=nxT 2 tok;go_at_call 198;rw [←hw4.out];refine (Vm _ X w2.heap.size w4 hv4.out hl4.out).mono ?_;rintro e w5 ⟨f,rfl,hx5,hf5⟩;(have z5:=mK (hx5.blk z4.out));(have hE5:=mK ((hE4.out.trans hx5).row (nR _) #[.bool f.b1,.slice f.a1 f.n1 f.c1,.bool f.b2,.slice f.a2 f.n2 f.c2]));(have hf6:=mK (hf5.near (w':=w5.setRow w.heap.size #[.bool f.b1,.slice f.a1 f.n1 f.c1,.bool f.b2,.slice f.a2 f.n2 f.c2]) fun k hk=>setRow_other _ _ _ _ (by have:=(hf5.span k hk).1;have:=hl1.out;have:=hz2.out;omega)));clear hx5 hf5)
   | (replace tok:Tok 4:=nxT 3 tok;refine wpList_store_row rfl 28 (.tmp 2) (.tmp 29) rfl w.heap.size #[.bool f.b1,.slice f.a1 f.n1 f.c1,.bool f.b2,.slice f.a2 f.n2 f.c2] rfl rfl 28 _ z5.out (by kernel_rfl) rfl (by kernel_rfl) ?_))
  refine bodyPost_ret (Aj rfl _ _ w.heap.size 28 #[.bool f.b1,.slice f.a1 f.n1 f.c1,.bool f.b2,.slice f.a2 f.n2 f.c2] _ _ rfl rfl (setRow_heap _ _ _ _ _ _ z5.out) Tryz.underlying28 rfl (by kernel_rfl)) rfl ?_;refine ⟨f,_,rfl,hE5.out,?_⟩;rcases ho.out with ⟨h1,h2⟩|⟨h1,h2,h3⟩
  ·exact .inr ⟨_,by rw [h1];rfl,h2,hf6.out.mono (by have:=hl2.out;omega)⟩
  ·exact .inl ⟨by rw [h1];rfl,h2⟩
 | true=>
  obtain rfl:o=none:=by
   rcases hf with h|h
   ·cases h
   ·exact h
  go_enter Tryz.func139,Tryz.ntmps139;have tok:Tok 0:=.mk _
  go_wp2_with (first
   | (replace tok:Tok 1:=nxT 0 tok;go_at_call 196;rw [←hw1.out];refine (KC.out w1 hE1.out).mono ?_;rintro e w2 ⟨rfl,hx2⟩;(have hE2:=mK (hE1.out.trans hx2));(have z2:=mK (hx2.blk z1.out));(have hl1:=mK hx2.size);clear hx2)
   | (replace tok:Tok 2:=nxT 1 tok;go_at_call 197;refine (KR.out w2).mono ?_;rintro e w3 ⟨v,b,X,rfl,ho,hv,hx3⟩;(obtain rfl:b=false:=(by rcases ho with ⟨h1,h2⟩|⟨h1,h2,h3⟩;cases h1;exact h2));(obtain ⟨nb,na,nn,nc,rfl⟩:=hv.r.shape);(obtain ⟨w4,hw4⟩:=nmE (w3.alloc (.cells #[.bool nb,.slice na nn nc] 26)));(have hx4:Ext w3 w4:=by rw [hw4];exact (xR w3).al _);(have hE4:=mK ((hE2.out.trans hx3).trans hx4));(have z4:=mK ((hx3.trans hx4).blk z2.out));(have hv4:=mK (hv.ext hx4));(have hl4:=mK (nT hx3.size hx4.size));(have hl2:=mK hE2.out.size);replace ho:=mK ho;replace hw4:=mK hw4;clear hx3 hx4 hE2 z2 hE1 z1 hw1 hv)
   | (replace tok:Tok 3:=nxT 2 tok;go_at_call 198;rw [←hw4.out];refine (Vm _ X w2.heap.size w4 hv4.out hl4.out).mono ?_;rintro e w5 ⟨f,rfl,hx5,hf5⟩;(have z5:=mK (hx5.blk z4.out));(have hE5:=mK ((hE4.out.trans hx5).row (nR _) #[.bool f.b1,.slice f.a1 f.n1 f.c1,.bool f.b2,.slice f.a2 f.n2 f.c2]));(have hf6:=mK (hf5.near (w':=w5.setRow w.heap.size #[.bool f.b1,.slice f.a1 f.n1 f.c1,.bool f.b2,.slice f.a2 f.n2 f.c2]) fun k hk=>setRow_other _ _ _ _ (by have:=(hf5.span k hk).1;have:=hl1.out;have:=hz2.out;omega)));clear hx5 hf5)
   | (replace tok:Tok 4:=nxT 3 tok;refine wpList_store_row rfl 28 (.tmp 2) (.tmp 29) rfl w.heap.size #[.bool f.b1,.slice f.a1 f.n1 f.c1,.bool f.b2,.slice f.a2 f.n2 f.c2] rfl rfl 28 _ z5.out (by kernel_rfl) rfl (by kernel_rfl) ?_))
  refine bodyPost_ret (Aj rfl _ _ w.heap.size 28 #[.bool f.b1,.slice f.a1 f.n1 f.c1,.bool f.b2,.slice f.a2 f.n2 f.c2] _ _ rfl rfl (setRow_heap _ _ _ _ _ _ z5.out) Tryz.underlying28 rfl (by kernel_rfl)) rfl ?_;refine ⟨f,_,rfl,hE5.out,?_⟩;exact .inl ⟨rfl,rfl⟩
theorem Pd (s:ByteArray)(w:World)(x y:ByteArray)(X:Int)(hx:x.size≤65536)(hy:y.size≤65536)
  (KC:∀ W,Ext w W→Calls Tryz.prog 196 #[.string s,.string ⟨#[47]⟩] W fun e w'=>e=.returned (.tuple #[.string x,.string y,.bool true])∧Ext W w')
  (hX:Bz x.data.toList=some X) (hY:Bz y.data.toList=none) :
  Calls Tryz.prog 139 #[.string s] w (RatQ w none):=by
 obtain ⟨w1,hw1⟩:=nmE (w.alloc (.cells #[.bool false,.slice none 0 0,.bool false,.slice none 0 0] 28));have hE1:=mK (show Ext w w1 by rw [hw1];exact (xR w).al _);have z1:=mK (aL10 hw1);have hz2:=mK (show w1.heap.size=w.heap.size+1 by rw [hw1];simp);have KR:=mK (fun W=>Gi x W hx);have KS:=mK (fun W=>Gi y W hy);replace KC:=mK KC;replace hw1:=mK hw1;rw [hX] at KR;rw [hY] at KS;clear hX hY hx hy;go_enter Tryz.func139,Tryz.ntmps139;have tok:Tok 0:=.mk _
 go_wp2_with (first
  | (replace tok:Tok 1:=nxT 0 tok;go_at_call 196;rw [←hw1.out];refine (KC.out w1 hE1.out).mono ?_;rintro e w2 ⟨rfl,hx2⟩;(have hE2:=mK (hE1.out.trans hx2));(have z2:=mK (hx2.blk z1.out));(have hl1:=mK hx2.size);clear hx2)
  | (replace tok:Tok 2:=nxT 1 tok;go_at_call 197;refine (KR.out w2).mono ?_;rintro e w3 ⟨v,b,X',rfl,ho,hv,hx3⟩;(obtain ⟨rfl,rfl⟩:X=X'∧b=true:=by (rcases ho with ⟨h1,h2⟩|⟨h1,h2,h3⟩;exact ⟨Option.some.inj h1,h2⟩;cases h1));(obtain ⟨nb,na,nn,nc,rfl⟩:=hv.r.shape);(obtain ⟨w4,hw4⟩:=nmE (w3.alloc (.cells #[.bool nb,.slice na nn nc] 26)));(have hx4:Ext w3 w4:=by rw [hw4];exact (xR w3).al _);(have hE4:=mK ((hE2.out.trans hx3).trans hx4));(have z4:=mK ((hx3.trans hx4).blk z2.out));(have hv4:=mK (hv.ext hx4));(have y4:=mK (aL10 hw4));(have hl4:=mK (nT hx3.size hx4.size));replace hw4:=mK hw4;clear ho hx3 hx4 hE2 z2 hE1 z1 hw1 hv)
  | (replace tok:Tok 3:=nxT 2 tok;go_at_call 197;rw [←hw4.out];refine (KS.out w4).mono ?_;rintro e w5 ⟨v,b,Y',rfl,ho,hv,hx5⟩;(obtain rfl:b=false:=(by rcases ho with ⟨h1,h2⟩|⟨h1,h2,h3⟩;cases h1;exact h2));(obtain ⟨db,da,dn,dc,rfl⟩:=hv.r.shape);(obtain ⟨w7,hw7⟩:=nmE ((w5.alloc (.cells #[.bool db,.slice da dn dc] 26)).alloc (.cells #[.bool nb,.slice na nn nc,.bool db,.slice da dn dc] 28)));(have hx7:Ext w5 w7:=by rw [hw7];exact ((xR w5).al _).al _);(have hE7:=mK ((hE4.out.trans hx5).trans hx7));(have z7:=mK ((hx5.trans hx7).blk z4.out));(have hv7:=mK (hv4.out.ext (hx5.trans hx7)));(have hd7:=mK (hv.ext hx7));(have y7:=mK ((hx5.trans hx7).blk y4.out));(have u7:=mK (show w7.heap[w5.heap.size]? = some (.cells #[.bool db,.slice da dn dc] 26 (0,0)) by rw [hw7];exact (heap_alloc_old _ _ (by simp)).trans (heap_alloc_new _ _)));(have t7:=mK (show w7.heap[w5.heap.size+1]? = some (.cells #[.bool nb,.slice na nn nc,.bool db,.slice da dn dc] 28 (0,0)) by rw [hw7];exact Bl _ _ _ (by simp)));(have hl5:=mK hx5.size);(obtain ⟨e0,e1⟩:=Am (hx5.blk y4.out));(have e2:w3.heap.size<w5.heap.size:=(Array.getElem?_eq_some_iff.1 (hx5.blk y4.out)).1);replace hw7:=mK hw7;clear ho hx5 hx7 hE4 z4 hv4 hv y4))
 rw [←hw7.out];have hn1:=Am y7.out;have hd1:=Am u7.out;have n0:∀ W,Ext w7 W→W.cell? ⟨w3.heap.size,0,none⟩=some (.bool nb):=fun W e=>e.cell hn1.1;have n1:∀ W,Ext w7 W→W.cell? ⟨w3.heap.size,1,none⟩=some (.slice na nn nc):=fun W e=>e.cell hn1.2;have d0:∀ W,Ext w7 W→W.cell? ⟨w5.heap.size,0,none⟩=some (.bool db):=fun W e=>e.cell hd1.1;have d1:∀ W,Ext w7 W→W.cell? ⟨w5.heap.size,1,none⟩=some (.slice da dn dc):=fun W e=>e.cell hd1.2;clear hn1 hd1 e0 e1 e2 tok;apply Ak [.val (.bool false),.val (.bool true),.val (.bool true),.val undef,.val undef,.val undef,.val (.bool true),.val (.bool true),.val undef,.val undef,.val undef,.val undef,.val (.bool true),.val (.bool true),.val undef,.val undef,.val undef,.val undef,.val undef,.val undef,.val (.bool true)] (by kernel_rfl)
 case hst=>
  iterate 21 (refine stable_vals _ ?_)
  trivial
 refine ⟨fun W hW _=>by go_simp;first|exact ⟨xR _,rfl⟩|exact xR _,?_⟩;refine ⟨fun W hW _=>by go_simp;first|exact ⟨xR _,rfl⟩|exact xR _,?_⟩;refine ⟨fun W hW _=>by go_simp;first|exact ⟨xR _,rfl⟩|exact xR _,?_⟩;refine ⟨fun W hW _=>by go_simp<;>(intro hh;have hh':(none:Option Bool)=some _:=hh;cases hh'),?_⟩;refine ⟨fun W hW _=>by go_simp<;>(intro hh;have hh':(none:Option Bool)=some _:=hh;cases hh'),?_⟩;refine ⟨fun W hW _=>by go_simp<;>(intro hh;have hh':(none:Option Bool)=some _:=hh;cases hh'),?_⟩;refine ⟨fun W hW _=>by go_simp;first|exact ⟨xR _,rfl⟩|exact xR _,?_⟩;refine ⟨fun W hW _=>by go_simp;first|exact ⟨xR _,rfl⟩|exact xR _,?_⟩;refine ⟨fun W hW _=>by go_simp<;>(intro hh;have hh':(none:Option Bool)=some _:=hh;cases hh'),?_⟩;refine ⟨fun W hW _=>by go_simp<;>(intro hh;have hh':(none:Option Bool)=some _:=hh;cases hh'),?_⟩;refine ⟨fun W hW _=>by go_simp<;>(intro hh;have hh':(none:Option Bool)=some _:=hh;cases hh'),?_⟩;refine ⟨fun W hW _=>by go_simp<;>(intro hh;have hh':(none:Option Bool)=some _:=hh;cases hh'),?_⟩;refine ⟨fun W hW _=>by go_simp;first|exact ⟨xR _,rfl⟩|exact xR _,?_⟩;refine ⟨fun W hW _=>by go_simp;first|exact ⟨xR _,rfl⟩|exact xR _,?_⟩;refine ⟨fun W hW _=>by go_simp<;>(intro hh;have hh':(none:Option Bool)=some _:=hh;cases hh'),?_⟩;refine ⟨fun W hW _=>by go_simp<;>(intro hh;have hh':(none:Option Bool)=some _:=hh;cases hh'),?_⟩;refine ⟨fun W hW _=>by go_simp<;>(intro hh;have hh':(none:Option Bool)=some _:=hh;cases hh'),?_⟩;refine ⟨fun W hW _=>by go_simp<;>(intro hh;have hh':(none:Option Bool)=some _:=hh;cases hh'),?_⟩;refine ⟨fun W hW _=>by go_simp<;>(intro hh;have hh':(none:Option Bool)=some _:=hh;cases hh'),?_⟩;refine ⟨fun W hW _=>by go_simp<;>(intro hh;have hh':(none:Option Bool)=some _:=hh;cases hh'),?_⟩
 refine ⟨fun W hW _=>by go_simp;first|exact ⟨xR _,rfl⟩|exact xR _,?_⟩;intro W hW _;have zW:=hW.blk z7.out;have hEW:=mK ((hE7.out.trans hW).row (nR _) #[.bool false,.slice none 0 0,.bool false,.slice none 0 0]);clear n0 n1 d0 d1 hW;go_simp;go_wp2_with (refine wpList_store_row rfl 28 (.tmp 2) (.tmp 60) rfl w.heap.size #[.bool false,.slice none 0 0,.bool false,.slice none 0 0] rfl rfl 28 _ zW (by kernel_rfl) rfl (by kernel_rfl) ?_);refine bodyPost_ret (Aj rfl _ _ w.heap.size 28 #[.bool false,.slice none 0 0,.bool false,.slice none 0 0] _ _ rfl rfl (setRow_heap _ _ _ _ _ _ zW) Tryz.underlying28 rfl (by kernel_rfl)) rfl ?_;exact ⟨⟨false,none,0,0,false,none,0,0⟩,false,rfl,hEW.out,.inl ⟨rfl,rfl⟩⟩
theorem Rb
 (s:ByteArray) (w:World) (x y:ByteArray) (X Y:Int) (hx:x.size≤65536) (hy:y.size≤65536)
  (KC:∀ W,Ext w W→Calls Tryz.prog 196 #[.string s,.string ⟨#[47]⟩] W fun e w'=>e=.returned (.tuple #[.string x,.string y,.bool true])∧Ext W w')
  (hX:Bz x.data.toList=some X) (hY:Bz y.data.toList=some Y)
 (h0:Y≤0) :
  Calls Tryz.prog 139 #[.string s] w (RatQ w none):=by
 obtain ⟨w1,hw1⟩:=nmE (w.alloc (.cells #[.bool false,.slice none 0 0,.bool false,.slice none 0 0] 28));have hE1:=mK (show Ext w w1 by rw [hw1];exact (xR w).al _);have z1:=mK (aL10 hw1);have hz2:=mK (show w1.heap.size=w.heap.size+1 by rw [hw1];simp);have KR:=mK (fun W=>Gi x W hx);have KS:=mK (fun W=>Gi y W hy);replace KC:=mK KC;replace hw1:=mK hw1;have nY:nl Y≤1073741824:=nT (Ff hY) (by rw [Fb];omega);rw [hX] at KR;rw [hY] at KS;obtain ⟨SG,hSG⟩:=nmE Y.sign;have hs:decide (SG≤0)=true:=by rw [hSG];exact decide_eq_true (by rcases Int.lt_or_eq_of_le h0 with h|h;rw [Int.sign_eq_neg_one_of_neg h];decide;rw [h];decide)
 replace hSG:=mK hSG;clear hX hY hx hy h0;go_enter Tryz.func139,Tryz.ntmps139;have tok:Tok 0:=.mk _
 go_wp2_with (first
  | (replace tok:Tok 1:=nxT 0 tok;go_at_call 196;rw [←hw1.out];refine (KC.out w1 hE1.out).mono ?_;rintro e w2 ⟨rfl,hx2⟩;(have hE2:=mK (hE1.out.trans hx2));(have z2:=mK (hx2.blk z1.out));(have hl1:=mK hx2.size);clear hx2)
  | (replace tok:Tok 2:=nxT 1 tok;go_at_call 197;refine (KR.out w2).mono ?_;rintro e w3 ⟨v,b,X',rfl,ho,hv,hx3⟩;(obtain ⟨rfl,rfl⟩:X=X'∧b=true:=by (rcases ho with ⟨h1,h2⟩|⟨h1,h2,h3⟩;exact ⟨Option.some.inj h1,h2⟩;cases h1));(obtain ⟨nb,na,nn,nc,rfl⟩:=hv.r.shape);(obtain ⟨w4,hw4⟩:=nmE (w3.alloc (.cells #[.bool nb,.slice na nn nc] 26)));(have hx4:Ext w3 w4:=by rw [hw4];exact (xR w3).al _);(have hE4:=mK ((hE2.out.trans hx3).trans hx4));(have z4:=mK ((hx3.trans hx4).blk z2.out));(have hv4:=mK (hv.ext hx4));(have y4:=mK (aL10 hw4));(have hl4:=mK (nT hx3.size hx4.size));replace hw4:=mK hw4;clear ho hx3 hx4 hE2 z2 hE1 z1 hw1 hv)
  | (replace tok:Tok 3:=nxT 2 tok;go_at_call 197;rw [←hw4.out];refine (KS.out w4).mono ?_;rintro e w5 ⟨v,b,Y',rfl,ho,hv,hx5⟩;(obtain ⟨rfl,rfl⟩:Y=Y'∧b=true:=by (rcases ho with ⟨h1,h2⟩|⟨h1,h2,h3⟩;exact ⟨Option.some.inj h1,h2⟩;cases h1));(obtain ⟨db,da,dn,dc,rfl⟩:=hv.r.shape);(obtain ⟨w7,hw7⟩:=nmE ((w5.alloc (.cells #[.bool db,.slice da dn dc] 26)).alloc (.cells #[.bool nb,.slice na nn nc,.bool db,.slice da dn dc] 28)));(have hx7:Ext w5 w7:=by rw [hw7];exact ((xR w5).al _).al _);(have hE7:=mK ((hE4.out.trans hx5).trans hx7));(have z7:=mK ((hx5.trans hx7).blk z4.out));(have hv7:=mK (hv4.out.ext (hx5.trans hx7)));(have hd7:=mK (hv.ext hx7));(have y7:=mK ((hx5.trans hx7).blk y4.out));(have u7:=mK (show w7.heap[w5.heap.size]? = some (.cells #[.bool db,.slice da dn dc] 26 (0,0)) by rw [hw7];exact (heap_alloc_old _ _ (by simp)).trans (heap_alloc_new _ _)));(have t7:=mK (show w7.heap[w5.heap.size+1]? = some (.cells #[.bool nb,.slice na nn nc,.bool db,.slice da dn dc] 28 (0,0)) by rw [hw7];exact Bl _ _ _ (by simp)));(have hl5:=mK hx5.size);(obtain ⟨e0,e1⟩:=Am (hx5.blk y4.out));(have e2:w3.heap.size<w5.heap.size:=(Array.getElem?_eq_some_iff.1 (hx5.blk y4.out)).1);replace hw7:=mK hw7;clear ho hx5 hx7 hE4 z4 hv4 hv y4))
 rw [←hw7.out];have hn1:=Am y7.out;have hd1:=Am u7.out;have n0:∀ W,Ext w7 W→W.cell? ⟨w3.heap.size,0,none⟩=some (.bool nb):=fun W e=>e.cell hn1.1;have n1:∀ W,Ext w7 W→W.cell? ⟨w3.heap.size,1,none⟩=some (.slice na nn nc):=fun W e=>e.cell hn1.2;have d0:∀ W,Ext w7 W→W.cell? ⟨w5.heap.size,0,none⟩=some (.bool db):=fun W e=>e.cell hd1.1;have d1:∀ W,Ext w7 W→W.cell? ⟨w5.heap.size,1,none⟩=some (.slice da dn dc):=fun W e=>e.cell hd1.2;clear hn1 hd1 e0 e1 e2 tok;apply Ak [.val (.bool true),.val (.bool false),.val (.bool false),.val (.agg #[.bool db,.slice da dn dc]),.val (.int .i64 SG),.val (.bool true),.val (.bool true),.val (.bool true),.val undef,.val undef,.val undef,.val undef,.val (.bool true),.val (.bool true),.val undef,.val undef,.val undef,.val undef,.val undef,.val undef,.val (.bool true)] (by kernel_rfl)
 case hst=>
  iterate 21 (refine stable_vals _ ?_)
  trivial
 refine ⟨fun W hW _=>by go_simp;first|exact ⟨xR _,rfl⟩|exact xR _,?_⟩;refine ⟨fun W hW _=>by go_simp;first|exact ⟨xR _,rfl⟩|exact xR _,?_⟩;refine ⟨fun W hW _=>by go_simp;first|exact ⟨xR _,rfl⟩|exact xR _,?_⟩;refine ⟨fun W hW _=>by have:=d0 W hW;have:=d1 W hW;go_simp;first|exact ⟨xR _,rfl⟩|exact xR _,?_⟩;refine ⟨fun W hW _=>?g4,?_⟩
 case g4=>
  go_simp;refine (Fz _ _ W (hd7.out.ext hW).r nY).mono ?_;rintro e w' ⟨rfl,h1⟩;rw [←hSG.out];exact ⟨rfl,h1⟩
 refine ⟨fun W hW _=>by go_simp;first|exact ⟨xR _,rfl⟩|exact xR _,?_⟩;refine ⟨fun W hW _=>by go_simp;first|exact ⟨xR _,rfl⟩|exact xR _,?_⟩;refine ⟨fun W hW _=>by go_simp;first|exact ⟨xR _,rfl⟩|exact xR _,?_⟩;refine ⟨fun W hW _=>by go_simp<;>(intro hh;have hh':(none:Option Bool)=some _:=hh;cases hh'),?_⟩;refine ⟨fun W hW _=>by go_simp<;>(intro hh;have hh':(none:Option Bool)=some _:=hh;cases hh'),?_⟩;refine ⟨fun W hW _=>by go_simp<;>(intro hh;have hh':(none:Option Bool)=some _:=hh;cases hh'),?_⟩;refine ⟨fun W hW _=>by go_simp<;>(intro hh;have hh':(none:Option Bool)=some _:=hh;cases hh'),?_⟩;refine ⟨fun W hW _=>by go_simp;first|exact ⟨xR _,rfl⟩|exact xR _,?_⟩;refine ⟨fun W hW _=>by go_simp;first|exact ⟨xR _,rfl⟩|exact xR _,?_⟩;refine ⟨fun W hW _=>by go_simp<;>(intro hh;have hh':(none:Option Bool)=some _:=hh;cases hh'),?_⟩;refine ⟨fun W hW _=>by go_simp<;>(intro hh;have hh':(none:Option Bool)=some _:=hh;cases hh'),?_⟩;refine ⟨fun W hW _=>by go_simp<;>(intro hh;have hh':(none:Option Bool)=some _:=hh;cases hh'),?_⟩;refine ⟨fun W hW _=>by go_simp<;>(intro hh;have hh':(none:Option Bool)=some _:=hh;cases hh'),?_⟩;refine ⟨fun W hW _=>by go_simp<;>(intro hh;have hh':(none:Option Bool)=some _:=hh;cases hh'),?_⟩;refine ⟨fun W hW _=>by go_simp<;>(intro hh;have hh':(none:Option Bool)=some _:=hh;cases hh'),?_⟩;refine ⟨fun W hW _=>by go_simp;first|exact ⟨xR _,rfl⟩|exact xR _,?_⟩;intro W hW _;have zW:=hW.blk z7.out;have hEW:=mK ((hE7.out.trans hW).row (nR _) #[.bool false,.slice none 0 0,.bool false,.slice none 0 0]);clear n0 n1 d0 d1 hW;go_simp;go_wp2_with (refine wpList_store_row rfl 28 (.tmp 2) (.tmp 60) rfl w.heap.size #[.bool false,.slice none 0 0,.bool false,.slice none 0 0] rfl rfl 28 _ zW (by kernel_rfl) rfl (by kernel_rfl) ?_);refine bodyPost_ret (Aj rfl _ _ w.heap.size 28 #[.bool false,.slice none 0 0,.bool false,.slice none 0 0] _ _ rfl rfl (setRow_heap _ _ _ _ _ _ zW) Tryz.underlying28 rfl (by kernel_rfl)) rfl ?_
 exact ⟨⟨false,none,0,0,false,none,0,0⟩,false,rfl,hEW.out,.inl ⟨rfl,rfl⟩⟩
theorem Ra
 (s:ByteArray) (w:World) (x y:ByteArray) (X Y:Int) (hx:x.size≤65536) (hy:y.size≤65536)
  (KC:∀ W,Ext w W→Calls Tryz.prog 196 #[.string s,.string ⟨#[47]⟩] W fun e w'=>e=.returned (.tuple #[.string x,.string y,.bool true])∧Ext W w')
  (hX:Bz x.data.toList=some X) (hY:Bz y.data.toList=some Y)
 (h0:Y=1) :
  Calls Tryz.prog 139 #[.string s] w (RatQ w none):=by
 obtain ⟨w1,hw1⟩:=nmE (w.alloc (.cells #[.bool false,.slice none 0 0,.bool false,.slice none 0 0] 28));have hE1:=mK (show Ext w w1 by rw [hw1];exact (xR w).al _);have z1:=mK (aL10 hw1);have hz2:=mK (show w1.heap.size=w.heap.size+1 by rw [hw1];simp);have KR:=mK (fun W=>Gi x W hx);have KS:=mK (fun W=>Gi y W hy);replace KC:=mK KC;replace hw1:=mK hw1;have nY:nl Y≤1073741824:=nT (Ff hY) (by rw [Fb];omega);rw [hX] at KR;rw [hY] at KS;have ho:=mK (fun w=>of_c 1 w (by omega) (by omega));have hs1:=mK (show Y.sign=1 by rw [h0];decide);have hs2:=mK (show (Y-1).sign=0 by rw [h0];decide);clear hX hY hx hy h0;go_enter Tryz.func139,Tryz.ntmps139;have tok:Tok 0:=.mk _
 go_wp2_with (first
  | (replace tok:Tok 1:=nxT 0 tok;go_at_call 196;rw [←hw1.out];refine (KC.out w1 hE1.out).mono ?_;rintro e w2 ⟨rfl,hx2⟩;(have hE2:=mK (hE1.out.trans hx2));(have z2:=mK (hx2.blk z1.out));(have hl1:=mK hx2.size);clear hx2)
  | (replace tok:Tok 2:=nxT 1 tok;go_at_call 197;refine (KR.out w2).mono ?_;rintro e w3 ⟨v,b,X',rfl,ho,hv,hx3⟩;(obtain ⟨rfl,rfl⟩:X=X'∧b=true:=by (rcases ho with ⟨h1,h2⟩|⟨h1,h2,h3⟩;exact ⟨Option.some.inj h1,h2⟩;cases h1));(obtain ⟨nb,na,nn,nc,rfl⟩:=hv.r.shape);(obtain ⟨w4,hw4⟩:=nmE (w3.alloc (.cells #[.bool nb,.slice na nn nc] 26)));(have hx4:Ext w3 w4:=by rw [hw4];exact (xR w3).al _);(have hE4:=mK ((hE2.out.trans hx3).trans hx4));(have z4:=mK ((hx3.trans hx4).blk z2.out));(have hv4:=mK (hv.ext hx4));(have y4:=mK (aL10 hw4));(have hl4:=mK (nT hx3.size hx4.size));replace hw4:=mK hw4;clear ho hx3 hx4 hE2 z2 hE1 z1 hw1 hv)
  | (replace tok:Tok 3:=nxT 2 tok;go_at_call 197;rw [←hw4.out];refine (KS.out w4).mono ?_;rintro e w5 ⟨v,b,Y',rfl,ho,hv,hx5⟩;(obtain ⟨rfl,rfl⟩:Y=Y'∧b=true:=by (rcases ho with ⟨h1,h2⟩|⟨h1,h2,h3⟩;exact ⟨Option.some.inj h1,h2⟩;cases h1));(obtain ⟨db,da,dn,dc,rfl⟩:=hv.r.shape);(obtain ⟨w7,hw7⟩:=nmE ((w5.alloc (.cells #[.bool db,.slice da dn dc] 26)).alloc (.cells #[.bool nb,.slice na nn nc,.bool db,.slice da dn dc] 28)));(have hx7:Ext w5 w7:=by rw [hw7];exact ((xR w5).al _).al _);(have hE7:=mK ((hE4.out.trans hx5).trans hx7));(have z7:=mK ((hx5.trans hx7).blk z4.out));(have hv7:=mK (hv4.out.ext (hx5.trans hx7)));(have hd7:=mK (hv.ext hx7));(have y7:=mK ((hx5.trans hx7).blk y4.out));(have u7:=mK (show w7.heap[w5.heap.size]? = some (.cells #[.bool db,.slice da dn dc] 26 (0,0)) by rw [hw7];exact (heap_alloc_old _ _ (by simp)).trans (heap_alloc_new _ _)));(have t7:=mK (show w7.heap[w5.heap.size+1]? = some (.cells #[.bool nb,.slice na nn nc,.bool db,.slice da dn dc] 28 (0,0)) by rw [hw7];exact Bl _ _ _ (by simp)));(have hl5:=mK hx5.size);(obtain ⟨e0,e1⟩:=Am (hx5.blk y4.out));(have e2:w3.heap.size<w5.heap.size:=(Array.getElem?_eq_some_iff.1 (hx5.blk y4.out)).1);replace hw7:=mK hw7;clear ho hx5 hx7 hE4 z4 hv4 hv y4))
 rw [←hw7.out];have hn1:=Am y7.out;have hd1:=Am u7.out;have n0:∀ W,Ext w7 W→W.cell? ⟨w3.heap.size,0,none⟩=some (.bool nb):=fun W e=>e.cell hn1.1;have n1:∀ W,Ext w7 W→W.cell? ⟨w3.heap.size,1,none⟩=some (.slice na nn nc):=fun W e=>e.cell hn1.2;have d0:∀ W,Ext w7 W→W.cell? ⟨w5.heap.size,0,none⟩=some (.bool db):=fun W e=>e.cell hd1.1;have d1:∀ W,Ext w7 W→W.cell? ⟨w5.heap.size,1,none⟩=some (.slice da dn dc):=fun W e=>e.cell hd1.2;clear hn1 hd1 e0 e1 e2 tok;apply Ak [.val (.bool true),.val (.bool false),.val (.bool false),.val (.agg #[.bool db,.slice da dn dc]),.val (.int .i64 1),.val (.bool false),.val (.bool false),.val (.bool false),.val (.agg #[.bool db,.slice da dn dc]),.pred (fun W v=>IntO W 0 v 1),.val (.int .i64 0),.val (.bool true),.val (.bool true),.val (.bool true),.val undef,.val undef,.val undef,.val undef,.val undef,.val undef,.val (.bool true)] (by kernel_rfl)
 case hst=>
  iterate 9 (refine stable_vals _ ?_)
  refine Av _ _ ?_;iterate 11 (refine stable_vals _ ?_)
  trivial
 refine ⟨fun W hW _=>by go_simp;first|exact ⟨xR _,rfl⟩|exact xR _,?_⟩;refine ⟨fun W hW _=>by go_simp;first|exact ⟨xR _,rfl⟩|exact xR _,?_⟩;refine ⟨fun W hW _=>by go_simp;first|exact ⟨xR _,rfl⟩|exact xR _,?_⟩;refine ⟨fun W hW _=>by have:=d0 W hW;have:=d1 W hW;go_simp;first|exact ⟨xR _,rfl⟩|exact xR _,?_⟩;refine ⟨fun W hW _=>?g4,?_⟩
 case g4=>
  go_simp;refine (Fz _ _ W (hd7.out.ext hW).r nY).mono ?_;rintro e w' ⟨rfl,h1⟩;rw [hs1.out];exact ⟨rfl,h1⟩
 refine ⟨fun W hW _=>by go_simp;first|exact ⟨xR _,rfl⟩|exact xR _,?_⟩;refine ⟨fun W hW _=>by go_simp;first|exact ⟨xR _,rfl⟩|exact xR _,?_⟩;refine ⟨fun W hW _=>by go_simp;first|exact ⟨xR _,rfl⟩|exact xR _,?_⟩;refine ⟨fun W hW _=>by have:=d0 W hW;have:=d1 W hW;go_simp;first|exact ⟨xR _,rfl⟩|exact xR _,?_⟩;refine ⟨fun W hW hF=>?g9,fun v9=>?_⟩
 case g9=>
  clear hF;go_simp;refine (ho.out W).mono ?_;rintro e w' ⟨v,rfl,h1,h2⟩;exact ⟨v,rfl,h1,h2.mono (Nat.zero_le _)⟩
 refine ⟨fun W hW hF=>?g10,?_⟩
 case g10=>
  have q9:Hid (IntO W 0 v9 1):=hF.1 (by kernel_rfl);clear hF;go_simp;refine (Kt _ _ Y 1 W nY Ka (hd7.out.ext hW).r q9.out.r).mono ?_;rintro e w' ⟨rfl,h1⟩;rw [hs2.out];exact ⟨rfl,h1⟩
 refine ⟨fun W hW _=>by go_simp;first|exact ⟨xR _,rfl⟩|exact xR _,?_⟩;refine ⟨fun W hW _=>by go_simp;first|exact ⟨xR _,rfl⟩|exact xR _,?_⟩;refine ⟨fun W hW _=>by go_simp;first|exact ⟨xR _,rfl⟩|exact xR _,?_⟩;refine ⟨fun W hW _=>by go_simp<;>(intro hh;have hh':(none:Option Bool)=some _:=hh;cases hh'),?_⟩;refine ⟨fun W hW _=>by go_simp<;>(intro hh;have hh':(none:Option Bool)=some _:=hh;cases hh'),?_⟩;refine ⟨fun W hW _=>by go_simp<;>(intro hh;have hh':(none:Option Bool)=some _:=hh;cases hh'),?_⟩;refine ⟨fun W hW _=>by go_simp<;>(intro hh;have hh':(none:Option Bool)=some _:=hh;cases hh'),?_⟩;refine ⟨fun W hW _=>by go_simp<;>(intro hh;have hh':(none:Option Bool)=some _:=hh;cases hh'),?_⟩;refine ⟨fun W hW _=>by go_simp<;>(intro hh;have hh':(none:Option Bool)=some _:=hh;cases hh'),?_⟩;refine ⟨fun W hW _=>by go_simp;first|exact ⟨xR _,rfl⟩|exact xR _,?_⟩;intro W hW _;have zW:=hW.blk z7.out;have hEW:=mK ((hE7.out.trans hW).row (nR _) #[.bool false,.slice none 0 0,.bool false,.slice none 0 0]);clear n0 n1 d0 d1 hW;go_simp;go_wp2_with (refine wpList_store_row rfl 28 (.tmp 2) (.tmp 60) rfl w.heap.size #[.bool false,.slice none 0 0,.bool false,.slice none 0 0] rfl rfl 28 _ zW (by kernel_rfl) rfl (by kernel_rfl) ?_);refine bodyPost_ret (Aj rfl _ _ w.heap.size 28 #[.bool false,.slice none 0 0,.bool false,.slice none 0 0] _ _ rfl rfl (setRow_heap _ _ _ _ _ _ zW) Tryz.underlying28 rfl (by kernel_rfl)) rfl ?_;exact ⟨⟨false,none,0,0,false,none,0,0⟩,false,rfl,hEW.out,.inl ⟨rfl,rfl⟩⟩
theorem Rc
 (s:ByteArray) (w:World) (x y:ByteArray) (X Y:Int) (hx:x.size≤65536) (hy:y.size≤65536)
  (KC:∀ W,Ext w W→Calls Tryz.prog 196 #[.string s,.string ⟨#[47]⟩] W fun e w'=>e=.returned (.tuple #[.string x,.string y,.bool true])∧Ext W w')
  (hX:Bz x.data.toList=some X) (hY:Bz y.data.toList=some Y)
 (h0:1<Y) :
  Calls Tryz.prog 139 #[.string s] w (RatQ w (if Int.gcd X Y=1 then some (Rat.divInt X Y) else none)):=by
 obtain ⟨w1,hw1⟩:=nmE (w.alloc (.cells #[.bool false,.slice none 0 0,.bool false,.slice none 0 0] 28));have hE1:=mK (show Ext w w1 by rw [hw1];exact (xR w).al _);have z1:=mK (aL10 hw1);have hz2:=mK (show w1.heap.size=w.heap.size+1 by rw [hw1];simp);have KR:=mK (fun W=>Gi x W hx);have KS:=mK (fun W=>Gi y W hy);replace KC:=mK KC;replace hw1:=mK hw1;have nX:nl X≤1073741824:=nT (Ff hX) (by rw [Fb];omega);have nY:nl Y≤1073741824:=nT (Ff hY) (by rw [Fb];omega);rw [hX] at KR;rw [hY] at KS;obtain ⟨G,hG⟩:=nmE (Int.gcd X Y);obtain ⟨SG,hSG⟩:=nmE (((G:Int)-1).sign);have ho:=mK (fun w=>of_c 1 w (by omega) (by omega));have hs1:=mK (show Y.sign=1 from Int.sign_eq_one_of_pos (by omega));have hs2:=mK (show (Y-1).sign=1 from Int.sign_eq_one_of_pos (by omega))
 have nG:nl (G:Int)≤1073741824:=by
  refine nT ?_ nY;unfold nl;rw [Int.natAbs_natCast];refine Cq ?_;rw [hG];exact Nat.le_of_dvd (by omega) (Int.gcd_dvd_natAbs_right X Y)
 have hz:(SG != 0)=decide (G≠1):=by
  rw [Bool.eq_iff_iff,bne_iff_ne,decide_eq_true_eq,hSG];refine not_congr ?_;rw [Int.sign_eq_zero_iff_zero];omega
 have hrat:=mK (fun (h:G=1)=>Jw (n:=X) (d:=Y) (by omega) (by rw [←hG];exact h));rw [←hG];obtain ⟨O,hO⟩:=nmE (if G=1 then some (Rat.divInt X Y) else none:Option Rat);rw [←hO];replace hO:=mK hO;replace hG:=mK hG;replace hSG:=mK hSG;replace hz:=mK hz;clear hX hY hx hy h0;go_enter Tryz.func139,Tryz.ntmps139;have tok:Tok 0:=.mk _
 go_wp2_with (first
  | (replace tok:Tok 1:=nxT 0 tok;go_at_call 196;rw [←hw1.out];refine (KC.out w1 hE1.out).mono ?_;rintro e w2 ⟨rfl,hx2⟩;(have hE2:=mK (hE1.out.trans hx2));(have z2:=mK (hx2.blk z1.out));(have hl1:=mK hx2.size);clear hx2)
  | (replace tok:Tok 2:=nxT 1 tok;go_at_call 197;refine (KR.out w2).mono ?_;rintro e w3 ⟨v,b,X',rfl,ho,hv,hx3⟩;(obtain ⟨rfl,rfl⟩:X=X'∧b=true:=by (rcases ho with ⟨h1,h2⟩|⟨h1,h2,h3⟩;exact ⟨Option.some.inj h1,h2⟩;cases h1));(obtain ⟨nb,na,nn,nc,rfl⟩:=hv.r.shape);(obtain ⟨w4,hw4⟩:=nmE (w3.alloc (.cells #[.bool nb,.slice na nn nc] 26)));(have hx4:Ext w3 w4:=by rw [hw4];exact (xR w3).al _);(have hE4:=mK ((hE2.out.trans hx3).trans hx4));(have z4:=mK ((hx3.trans hx4).blk z2.out));(have hv4:=mK (hv.ext hx4));(have y4:=mK (aL10 hw4));(have hl4:=mK (nT hx3.size hx4.size));replace hw4:=mK hw4;clear ho hx3 hx4 hE2 z2 hE1 z1 hw1 hv)
  | (replace tok:Tok 3:=nxT 2 tok;go_at_call 197;rw [←hw4.out];refine (KS.out w4).mono ?_;rintro e w5 ⟨v,b,Y',rfl,ho,hv,hx5⟩;(obtain ⟨rfl,rfl⟩:Y=Y'∧b=true:=by (rcases ho with ⟨h1,h2⟩|⟨h1,h2,h3⟩;exact ⟨Option.some.inj h1,h2⟩;cases h1));(obtain ⟨db,da,dn,dc,rfl⟩:=hv.r.shape);(obtain ⟨w7,hw7⟩:=nmE ((w5.alloc (.cells #[.bool db,.slice da dn dc] 26)).alloc (.cells #[.bool nb,.slice na nn nc,.bool db,.slice da dn dc] 28)));(have hx7:Ext w5 w7:=by rw [hw7];exact ((xR w5).al _).al _);(have hE7:=mK ((hE4.out.trans hx5).trans hx7));(have z7:=mK ((hx5.trans hx7).blk z4.out));(have hv7:=mK (hv4.out.ext (hx5.trans hx7)));(have hd7:=mK (hv.ext hx7));(have y7:=mK ((hx5.trans hx7).blk y4.out));(have u7:=mK (show w7.heap[w5.heap.size]? = some (.cells #[.bool db,.slice da dn dc] 26 (0,0)) by rw [hw7];exact (heap_alloc_old _ _ (by simp)).trans (heap_alloc_new _ _)));(have t7:=mK (show w7.heap[w5.heap.size+1]? = some (.cells #[.bool nb,.slice na nn nc,.bool db,.slice da dn dc] 28 (0,0)) by rw [hw7];exact Bl _ _ _ (by simp)));(have hl5:=mK hx5.size);(obtain ⟨e0,e1⟩:=Am (hx5.blk y4.out));(have e2:w3.heap.size<w5.heap.size:=(Array.getElem?_eq_some_iff.1 (hx5.blk y4.out)).1);replace hw7:=mK hw7;clear ho hx5 hx7 hE4 z4 hv4 hv y4))
 rw [←hw7.out];have hn1:=Am y7.out;have hd1:=Am u7.out;have n0:∀ W,Ext w7 W→W.cell? ⟨w3.heap.size,0,none⟩=some (.bool nb):=fun W e=>e.cell hn1.1;have n1:∀ W,Ext w7 W→W.cell? ⟨w3.heap.size,1,none⟩=some (.slice na nn nc):=fun W e=>e.cell hn1.2;have d0:∀ W,Ext w7 W→W.cell? ⟨w5.heap.size,0,none⟩=some (.bool db):=fun W e=>e.cell hd1.1;have d1:∀ W,Ext w7 W→W.cell? ⟨w5.heap.size,1,none⟩=some (.slice da dn dc):=fun W e=>e.cell hd1.2;clear hn1 hd1 e0 e1 e2 tok;apply Ak [.val (.bool true),.val (.bool false),.val (.bool false),.val (.agg #[.bool db,.slice da dn dc]),.val (.int .i64 1),.val (.bool false),.val (.bool false),.val (.bool false),.val (.agg #[.bool db,.slice da dn dc]),.pred (fun W v=>IntO W 0 v 1),.val (.int .i64 1),.val (.bool false),.val (.bool false),.val (.bool false),.val (.agg #[.bool nb,.slice na nn nc]),.val (.agg #[.bool db,.slice da dn dc]),.pred (fun W v=>IntO W 0 v (G:Int)),.pred (fun W v=>IntO W 0 v 1),.val (.int .i64 SG),.val (.bool (SG != 0)),.val (.bool (SG != 0))] (by kernel_rfl)
 case hst=>
  iterate 9 (refine stable_vals _ ?_)
  refine Av _ _ ?_;iterate 6 (refine stable_vals _ ?_)
  refine Av _ _ ?_;refine Av _ _ ?_;iterate 3 (refine stable_vals _ ?_)
  trivial
 refine ⟨fun W hW _=>by go_simp;first|exact ⟨xR _,rfl⟩|exact xR _,?_⟩;refine ⟨fun W hW _=>by go_simp;first|exact ⟨xR _,rfl⟩|exact xR _,?_⟩;refine ⟨fun W hW _=>by go_simp;first|exact ⟨xR _,rfl⟩|exact xR _,?_⟩;refine ⟨fun W hW _=>by have:=d0 W hW;have:=d1 W hW;go_simp;first|exact ⟨xR _,rfl⟩|exact xR _,?_⟩;refine ⟨fun W hW _=>?g4,?_⟩
 case g4=>
  go_simp;refine (Fz _ _ W (hd7.out.ext hW).r nY).mono ?_;rintro e w' ⟨rfl,h1⟩;rw [hs1.out];exact ⟨rfl,h1⟩
 refine ⟨fun W hW _=>by go_simp;first|exact ⟨xR _,rfl⟩|exact xR _,?_⟩;refine ⟨fun W hW _=>by go_simp;first|exact ⟨xR _,rfl⟩|exact xR _,?_⟩;refine ⟨fun W hW _=>by go_simp;first|exact ⟨xR _,rfl⟩|exact xR _,?_⟩;refine ⟨fun W hW _=>by have:=d0 W hW;have:=d1 W hW;go_simp;first|exact ⟨xR _,rfl⟩|exact xR _,?_⟩;refine ⟨fun W hW hF=>?g9,fun v9=>?_⟩
 case g9=>
  clear hF;go_simp;refine (ho.out W).mono ?_;rintro e w' ⟨v,rfl,h1,h2⟩;exact ⟨v,rfl,h1,h2.mono (Nat.zero_le _)⟩
 refine ⟨fun W hW hF=>?g10,?_⟩
 case g10=>
  have q9:Hid (IntO W 0 v9 1):=hF.1 (by kernel_rfl);clear hF;go_simp;refine (Kt _ _ Y 1 W nY Ka (hd7.out.ext hW).r q9.out.r).mono ?_;rintro e w' ⟨rfl,h1⟩;rw [hs2.out];exact ⟨rfl,h1⟩
 refine ⟨fun W hW _=>by go_simp;first|exact ⟨xR _,rfl⟩|exact xR _,?_⟩;refine ⟨fun W hW _=>by go_simp;first|exact ⟨xR _,rfl⟩|exact xR _,?_⟩;refine ⟨fun W hW _=>by go_simp;first|exact ⟨xR _,rfl⟩|exact xR _,?_⟩;refine ⟨fun W hW _=>by have:=n0 W hW;have:=n1 W hW;go_simp;first|exact ⟨xR _,rfl⟩|exact xR _,?_⟩;refine ⟨fun W hW _=>by have:=d0 W hW;have:=d1 W hW;go_simp;first|exact ⟨xR _,rfl⟩|exact xR _,?_⟩;refine ⟨fun W hW hF=>?g16,fun v16=>?_⟩
 case g16=>
  clear hF;go_simp;refine (Mm _ _ X Y W nX nY (hv7.out.ext hW).r (hd7.out.ext hW).r).mono ?_;rintro e w' ⟨v,rfl,h1,h2⟩;rw [←hG.out] at h2;exact ⟨v,rfl,h1,h2.mono (Nat.zero_le _)⟩
 refine ⟨fun W hW hF=>?g17,fun v17=>?_⟩
 case g17=>
  clear hF;go_simp;refine (ho.out W).mono ?_;rintro e w' ⟨v,rfl,h1,h2⟩;exact ⟨v,rfl,h1,h2.mono (Nat.zero_le _)⟩
 refine ⟨fun W hW hF=>?g18,?_⟩
 case g18=>
  have q17:Hid (IntO W 0 v17 1):=hF.1 (by kernel_rfl);have q16:Hid (IntO W 0 v16 (G:Int)):=hF.2.1 (by kernel_rfl);clear hF;go_simp;refine (Kt _ _ (G:Int) 1 W nG Ka q16.out.r q17.out.r).mono ?_;rintro e w' ⟨rfl,h1⟩;rw [←hSG.out];exact ⟨rfl,h1⟩
 refine ⟨fun W hW _=>by go_simp;first|exact ⟨xR _,rfl⟩|exact xR _,?_⟩;refine ⟨fun W hW _=>by go_simp;first|exact ⟨xR _,rfl⟩|exact xR _,?_⟩;intro W hW _;rw [hz.out];by_cases hg:G=1
 ·have hO1:=hO.out
  rw [if_pos hg] at hO1;replace hO1:=mK hO1;rw [decide_eq_false (by simpa using hg)];obtain ⟨r1,r2⟩:=hrat.out hg;have HN:IntO W w2.heap.size (.agg #[.bool nb,.slice na nn nc]) X:=hv7.out.ext hW;have HD:IntO W w2.heap.size (.agg #[.bool db,.slice da dn dc]) Y:=(hd7.out.ext hW).mono hl4.out;have R:FracO W w2.heap.size (.agg #[.bool nb,.slice na nn nc,.bool db,.slice da dn dc]) (Rat.divInt X Y):=⟨_,_,_,_,_,_,_,_,rfl,by rw [r1];exact HN,by rw [r2];exact HD⟩
  have FR:=mK ((R.row (g:=w.heap.size) (by have:=hl1.out;have:=hz2.out;omega) #[.bool nb,.slice na nn nc,.bool db,.slice da dn dc]).mono (show w.heap.size≤w2.heap.size by have:=hl1.out;have:=hz2.out;omega));have hEW:=mK ((hE7.out.trans hW).row (nR _) #[.bool nb,.slice na nn nc,.bool db,.slice da dn dc]);have zW:=mK (hW.blk z7.out);have tW:=mK (hW.blk t7.out);clear n0 n1 d0 d1 hW hg HN HD R r1 r2;go_simp;have tok:Tok 30:=.mk _
  go_wp2_with (first
   | (replace tok:Tok 31:=nxT 30 tok;refine wpList_load_row (by rfl) 28 (.tmp 10) rfl (w5.heap.size+1) rfl 28 #[.bool nb,.slice na nn nc,.bool db,.slice da dn dc] (0,0) _ tW.out Tryz.underlying28 rfl (by kernel_rfl) ?_)
   | (replace tok:Tok 32:=nxT 31 tok;refine wpList_store_row rfl 28 (.tmp 2) (.tmp 61) rfl w.heap.size #[.bool nb,.slice na nn nc,.bool db,.slice da dn dc] rfl rfl 28 _ zW.out (by kernel_rfl) rfl (by kernel_rfl) ?_))
  refine bodyPost_ret (Aj rfl _ _ w.heap.size 28 #[.bool nb,.slice na nn nc,.bool db,.slice da dn dc] _ _ rfl rfl (setRow_heap _ _ _ _ _ _ zW.out) Tryz.underlying28 rfl (by kernel_rfl)) rfl ?_;exact ⟨⟨nb,na,nn,nc,db,da,dn,dc⟩,true,rfl,hEW.out,.inr ⟨_,hO1.out,rfl,FR.out⟩⟩
 ·have hO1:=hO.out
  rw [if_neg hg] at hO1;subst hO1;clear hO;rw [decide_eq_true hg];revert W;intro W hW _;have zW:=hW.blk z7.out;have hEW:=mK ((hE7.out.trans hW).row (nR _) #[.bool false,.slice none 0 0,.bool false,.slice none 0 0]);clear n0 n1 d0 d1 hW;go_simp;go_wp2_with (refine wpList_store_row rfl 28 (.tmp 2) (.tmp 60) rfl w.heap.size #[.bool false,.slice none 0 0,.bool false,.slice none 0 0] rfl rfl 28 _ zW (by kernel_rfl) rfl (by kernel_rfl) ?_);refine bodyPost_ret (Aj rfl _ _ w.heap.size 28 #[.bool false,.slice none 0 0,.bool false,.slice none 0 0] _ _ rfl rfl (setRow_heap _ _ _ _ _ _ zW) Tryz.underlying28 rfl (by kernel_rfl)) rfl ?_;exact ⟨⟨false,none,0,0,false,none,0,0⟩,false,rfl,hEW.out,.inl ⟨rfl,rfl⟩⟩
theorem Xw (s:ByteArray)(w:World)(hs:s.size≤65536)(hm:Max0 w):Calls Tryz.prog 139 #[.string s] w (RatQ w (Dx s.data.toList)):=by
 cases hc:cutL 47 s.data.toList with
 | none=>
  rw [Lw hc];exact Id s w s ⟨#[]⟩ false hs (fun W e=>Ach 47 s W (by omega) (hm.ext e) hc) (.inl rfl)
 | some p=>
  obtain ⟨x,y⟩:=p;have hl:=congrArg List.length (Hv hc).1;rw [Fb,List.length_append,List.length_cons] at hl;have KC:∀ W,Ext w W→Calls Tryz.prog 196 #[.string s,.string ⟨#[47]⟩] W fun e w'=>e=.returned (.tuple #[.string ⟨x.toArray⟩,.string ⟨y.toArray⟩,.bool true])∧Ext W w':=fun W e=>Aeg 47 s W (by omega) (hm.ext e) hc;rw [Nm hc];have hx:(⟨x.toArray⟩:ByteArray).size≤65536:=by rw [Vt];omega
  have hy:(⟨y.toArray⟩:ByteArray).size≤65536:=by rw [Vt];omega
  cases hX:Bz x with
  | none=>
   have:=Id s w ⟨x.toArray⟩ ⟨y.toArray⟩ true hx KC (.inr hX);rw [show (⟨x.toArray⟩:ByteArray).data.toList=x from rfl,hX] at this;exact this
  | some X=>
   cases hY:Bz y with
   | none=>exact Pd s w _ _ X hx hy KC hX hY
   | some Y=>
    rcases Int.lt_trichotomy 1 Y with h|h|h
    ·have:=Rc s w _ _ X Y hx hy KC hX hY h
     simp only [h,true_and];exact this
    ·rw [show (match some X,some Y with|some n,some d=>if 1<d∧Int.gcd n d=1 then some (Rat.divInt n d) else none|_,_=>none)=(none:Option Rat) from if_neg (by omega)]
     exact Ra s w _ _ X Y hx hy KC hX hY h.symm
    ·rw [show (match some X,some Y with|some n,some d=>if 1<d∧Int.gcd n d=1 then some (Rat.divInt n d) else none|_,_=>none)=(none:Option Rat) from if_neg (by omega)]
     exact Rb s w _ _ X Y hx hy KC hX hY (by omega)
def Ma (s:List UInt8):Int:=match Dx s with
 | none=>5
 | some x=>capE x
def ParQ (w:World)(s:List UInt8)(e:Ending)(w':World):Prop:=∃ f:FV,e=.returned (.tuple #[.agg #[.bool f.b1,.slice f.a1 f.n1 f.c1,.bool f.b2,.slice f.a2 f.n2 f.c2],.int .i64 (Ma s)])∧Ext w w'∧(∀ x,Dx s=some x→nf x≤2048→FracO w' w.heap.size (.agg #[.bool f.b1,.slice f.a1 f.n1 f.c1,.bool f.b2,.slice f.a2 f.n2 f.c2]) x)
theorem Aax {s:List UInt8}{x:Rat}(h:Dx s=some x):nf x≤s.length:=by
 cases hc:cutL 47 s with
 | none=>
  rw [Lw hc] at h;cases hr:Bz s with
  | none=>rw [hr] at h;cases h
  | some n=>
   rw [hr] at h;simp only [Option.map_some,Option.some.injEq] at h;subst h;have h1:=Ff hr;unfold nf;rw [Rat.num_intCast,Rat.den_intCast];refine Nat.max_le.2 ⟨h1,?_⟩;refine nT (Md (by decide)) ?_
   have hs:s≠[]:=by
    intro e;rw [e] at hr;cases hr
   exact List.length_pos_iff.2 hs
 | some p=>
  obtain ⟨f,b⟩:=p;rw [Nm hc] at h;have hl:=congrArg List.length (Hv hc).1;rw [List.length_append,List.length_cons] at hl;cases hr:Bz f with
  | none=>rw [hr] at h;cases h
  | some n=>
   cases hq:Bz b with
   | none=>rw [hr,hq] at h;cases h
   | some d=>
    rw [hr,hq] at h;simp only at h;split at h
    ·rename_i hd
     cases h;obtain ⟨e1,e2⟩:=Jw (by omega) hd.2;unfold nf;rw [e1,e2];have h1:=Ff hr;have h2:=Ff hq;exact Nat.max_le.2 ⟨by omega,by omega⟩
    ·cases h
theorem Adf (s:ByteArray)(w:World)(hs:s.size≤65536)(hm:Max0 w):Calls Tryz.prog 85 #[.string s] w (ParQ w s.data.toList):=by
 obtain ⟨w1,hw1⟩:=nmE (w.alloc (.cells #[.bool false,.slice none 0 0,.bool false,.slice none 0 0] 28));have hE1:=mK (show Ext w w1 by rw [hw1];exact (xR w).al _);have z1:=mK (aL10 hw1);have hz1:=mK (show w1.heap.size=w.heap.size+1 by rw [hw1];simp);have KR:=mK (Xw s w1 hs (hm.ext hE1.out));have hnf:=mK (fun x (h:Dx s.data.toList=some x)=>nT (Aax h) (by rw [Fb];exact hs));have hs':¬(65536:Int)<(s.size:Int):=by omega
 unfold ParQ Ma;generalize Dx s.data.toList=o at *;replace hw1:=mK hw1;clear hm hs;cases o with
 | none=>
  go_enter Tryz.func85,Tryz.ntmps85;have tok:Tok 0:=.mk _
  go_wp2_with (first
   | (replace tok:Tok 1:=nxT 0 tok;go_at_call 139;rw [←hw1.out];refine KR.out.mono ?_;rintro e w2 ⟨f,b,rfl,hx2,ho⟩;(obtain rfl:b=false:=(by rcases ho with ⟨_,h⟩|⟨x,h,_⟩;exact h;cases h));(obtain ⟨w3,hw3⟩:=nmE ((w2.alloc (.cells #[.bool false,.slice none 0 0,.bool false,.slice none 0 0] 28)).setRow w2.heap.size #[.bool f.b1,.slice f.a1 f.n1 f.c1,.bool f.b2,.slice f.a2 f.n2 f.c2]));(have hx3:Ext w2 w3:=by rw [hw3];exact ((xR w2).al _).row (nR _) _);(have hE3:=mK ((hE1.out.trans hx2).trans hx3));(have z3:=mK ((hx2.trans hx3).blk z1.out));replace hw3:=mK hw3;clear ho hx2 hx3)
   | (replace tok:Tok 2:=nxT 1 tok;refine wpList_store_row rfl 28 (.tmp 4) (.tmp 13) rfl w2.heap.size #[.bool f.b1,.slice f.a1 f.n1 f.c1,.bool f.b2,.slice f.a2 f.n2 f.c2] rfl rfl 28 _ (heap_alloc_new _ _) (by kernel_rfl) rfl (by kernel_rfl) ?_;rw [←hw3.out])
   | (replace tok:Tok 3:=nxT 2 tok;refine wpList_store_row rfl 28 (.tmp 2) (.tmp 17) rfl w.heap.size #[.bool false,.slice none 0 0,.bool false,.slice none 0 0] rfl rfl 28 _ z3.out (by kernel_rfl) rfl (by kernel_rfl) ?_))
  refine bodyPost_ret (Aj rfl _ _ w.heap.size 28 #[.bool false,.slice none 0 0,.bool false,.slice none 0 0] _ _ rfl rfl (setRow_heap _ _ _ _ _ _ z3.out) Tryz.underlying28 rfl (by kernel_rfl)) rfl ?_;exact ⟨⟨false,none,0,0,false,none,0,0⟩,rfl,hE3.out.row (nR _) _,fun x h=>by cases h⟩
 | some x=>
  have hx:=hnf.out x rfl;have KA:=mK (fun W v h=>Vh v x W (nT hx (by decide)) h);clear hnf hx;go_enter Tryz.func85,Tryz.ntmps85;have tok:Tok 0:=.mk _
  go_wp2_with (first
   | (replace tok:Tok 1:=nxT 0 tok;go_at_call 139;rw [←hw1.out];refine KR.out.mono ?_;rintro e w2 ⟨f,b,rfl,hx2,ho⟩;(obtain ⟨rfl,hf⟩:b=true∧FracO w2 w1.heap.size (.agg #[.bool f.b1,.slice f.a1 f.n1 f.c1,.bool f.b2,.slice f.a2 f.n2 f.c2]) x:=(by rcases ho with ⟨h,_⟩|⟨y,h,h2,h3⟩;cases h;cases h;exact ⟨h2,h3⟩));(obtain ⟨w3,hw3⟩:=nmE ((w2.alloc (.cells #[.bool false,.slice none 0 0,.bool false,.slice none 0 0] 28)).setRow w2.heap.size #[.bool f.b1,.slice f.a1 f.n1 f.c1,.bool f.b2,.slice f.a2 f.n2 f.c2]));(have hx3:Ext w2 w3:=by rw [hw3];exact ((xR w2).al _).row (nR _) _);(have hE3:=mK ((hE1.out.trans hx2).trans hx3));(have z3:=mK ((hx2.trans hx3).blk z1.out));(have y3:=mK (show w3.heap[w2.heap.size]? = some (.cells #[.bool f.b1,.slice f.a1 f.n1 f.c1,.bool f.b2,.slice f.a2 f.n2 f.c2] 28 (0,0)) by rw [hw3];exact setRow_heap _ _ _ _ _ _ (heap_alloc_new _ _)));(have hf3:=mK (hf.r.ext hx3));replace hw3:=mK hw3;clear ho hx2 hx3 hf)
   | (replace tok:Tok 2:=nxT 1 tok;refine wpList_store_row rfl 28 (.tmp 4) (.tmp 13) rfl w2.heap.size #[.bool f.b1,.slice f.a1 f.n1 f.c1,.bool f.b2,.slice f.a2 f.n2 f.c2] rfl rfl 28 _ (heap_alloc_new _ _) (by kernel_rfl) rfl (by kernel_rfl) ?_;rw [←hw3.out])
   | (replace tok:Tok 3:=nxT 2 tok;refine wpList_load_row (by rfl) 28 (.tmp 4) rfl w2.heap.size rfl 28 #[.bool f.b1,.slice f.a1 f.n1 f.c1,.bool f.b2,.slice f.a2 f.n2 f.c2] (0,0) _ y3.out Tryz.underlying28 rfl (by kernel_rfl) ?_)
   | (replace tok:Tok 4:=nxT 3 tok;go_at_call 140;refine (KA.out w3 _ hf3.out).mono ?_;rintro e w4 ⟨g,rfl,hx4,hg⟩;(have z4:=mK (hx4.blk z3.out));(have hlt:=mK (Nat.lt_of_lt_of_le (Array.getElem?_eq_some_iff.1 z3.out).1 (nR _)));(have hE4:=mK (hE3.out.trans hx4));replace hg:=mK hg;clear hx4)
   | (replace tok:Tok 5:=nxT 4 tok;refine wpList_store_row rfl 28 (.tmp 2) (.tmp 20) rfl w.heap.size #[.bool g.b1,.slice g.a1 g.n1 g.c1,.bool g.b2,.slice g.a2 g.n2 g.c2] rfl rfl 28 _ z4.out (by kernel_rfl) rfl (by kernel_rfl) ?_))
  refine bodyPost_ret (Aj rfl _ _ w.heap.size 28 #[.bool g.b1,.slice g.a1 g.n1 g.c1,.bool g.b2,.slice g.a2 g.n2 g.c2] _ _ rfl rfl (setRow_heap _ _ _ _ _ _ z4.out) Tryz.underlying28 rfl (by kernel_rfl)) rfl ?_;refine ⟨g,rfl,hE4.out.row (nR _) _,fun y h hn=>?_⟩;cases h;exact ((hg.out hn).row hlt.out _).mono (Nat.le_of_lt hlt.out)
theorem Afe (R:WL):(tF R).isSome=(!R.isEmpty&&decide (Ma (R.headD [])=0)):=by
 cases R with
 | nil=>rfl
 | cons x r=>
  simp only [tF,List.isEmpty_cons,Bool.not_false,Bool.true_and,List.headD_cons,Ma];rcases Option.eq_none_or_eq_some (Dx x) with h|⟨q,h⟩
  ·simp only [h]
   rfl
  ·simp only [h,Option.bind_some,capE]
   split<;>rfl
theorem De {R r:WL}{x:Rat}(h:tF R=some (x,r)):Dx (R.headD [])=some x∧nf x≤2048∧r=R.tail:=by
 cases R with
 | nil=>cases h
 | cons y t=>
  simp only [tF,Option.bind_eq_some_iff] at h;obtain ⟨z,hz,h⟩:=h;split at h
  ·rename_i hn
   simp only [Option.some.injEq,Prod.mk.injEq] at h;obtain ⟨rfl,rfl⟩:=h;exact ⟨hz,hn,rfl⟩
  ·cases h
theorem RdS.set {rp k:Nat}{R:WL}{bad:Bool}{w:World}{cs:Array Value}{T:TypeId}{fr:Nat×Nat}(h:RdS rp R bad w)(hz:w.heap[k]? = some (.cells cs T fr))(hT:T≠9)(hk:k≠rp)(cs':Array Value):RdS rp R bad (w.setRow k cs'):=by
 obtain ⟨g,pre,a,c,h1,h2,h3,h4,h5⟩:=h;refine ⟨g,pre,a,c,(setRow_other _ _ _ _ (fun e=>hk e.symm)).trans h1,h2,h3,(setRow_other _ _ _ _ fun e=>?_).trans h4,h5⟩;subst e;rw [h4] at hz;cases hz;exact hT rfl
theorem RdS.bad {rp:Nat}{R:WL}{b:Bool}{w:World}(h:RdS rp R b w):∃ s,w.heap[rp]? = some (.cells #[s,.bool b] 82 (0,0))∧∀ b',RdS rp R b' (w.setRow rp #[s,.bool b']):=by
 obtain ⟨g,pre,a,c,h1,h2,h3,h4,h5⟩:=h;exact ⟨_,h1,fun b'=>⟨g,pre,a,c,setRow_heap _ _ _ _ _ _ h1,h2,h3,(setRow_other _ _ _ _ h5).trans h4,h5⟩⟩
theorem RdS.lt {rp:Nat}{R:WL}{b:Bool}{w:World}(h:RdS rp R b w):rp<w.heap.size:=by
 obtain ⟨g,pre,a,c,h1,-⟩:=h;exact (Array.getElem?_eq_some_iff.1 h1).1
def TkF (rp:Nat)(R:WL)(bad:Bool)(w:World)(e:Ending)(w':World):Prop:=
 ∃ f:FV,e=.returned (.agg #[.bool f.b1,.slice f.a1 f.n1 f.c1,.bool f.b2,.slice f.a2 f.n2 f.c2])∧RdS rp R.tail (bad || !(tF R).isSome) w'∧Chg w w' (· = rp)∧∀ x r,tF R=some (x,r)→FracO w' w.heap.size (.agg #[.bool f.b1,.slice f.a1 f.n1 f.c1,.bool f.b2,.slice f.a2 f.n2 f.c2]) x
theorem Ft (rp:Nat)(R:WL)(bad:Bool)(w:World)(h:RdS rp R bad w)(hs:∀ x∈R,x.length≤65536)(hm:∀ W,Chg w W (· = rp)→Max0 W) :
  Calls Tryz.prog 35 #[.pointer (some ⟨rp,0,none⟩)] w (TkF rp R bad w):=by
 have hrp:=h.lt;obtain ⟨w1,hw1⟩:=nmE (w.alloc (.cells #[.bool false,.slice none 0 0,.bool false,.slice none 0 0] 28));have hE1:=aLe1 hw1;have z1:=aL10 hw1;have hsz1:=aLs1 hw1;have KW:=mK (Ej rp R bad w1 (h.ext hE1))
 have KP:=mK (fun W hm=>Adf ⟨(R.headD []).toArray⟩ W (by
  have:(R.headD []).length≤65536:=by
   cases R with
   | nil=>simp
   | cons x r=>exact hs x (by simp)
  simpa [ByteArray.size] using this) hm)
 have hM:=mK hm;have hTF:=mK (fun x r (hx:tF R=some (x,r))=>De hx);have hPar:=Afe R;obtain ⟨X,hX⟩:=nmE (R.headD []);rw [←hX] at KW KP hPar;rw [←hX] at hTF;obtain ⟨E,hE⟩:=nmE (Ma X);rw [←hE] at hPar;obtain ⟨b1,hb1⟩:=nmE (bad||R.isEmpty);rw [←hb1] at KW;obtain ⟨b2,hb2⟩:=nmE (bad || !(tF R).isSome)
 have hb2':b2=(b1 || !decide (E=0)):=by
  rw [hb2,hPar,hb1];cases bad<;>cases R.isEmpty<;>simp
 unfold TkF;rw [←hb2];clear hPar hb2 hb1 h hs hm hX;obtain ⟨B,hB⟩:=nmE (decide (E=0));rw [←hB] at hb2';have hEq:(E==0)=B:=by rw [hB];rfl
 have hNe:(E != 0) = !B:=by rw [←hEq];rfl
 replace hB:=hB.symm;replace hE:=mK hE;replace hE1:=mK hE1;replace z1:=mK z1;replace hsz1:=mK hsz1;replace hw1:=mK hw1;replace hb2':=mK hb2';replace hrp:=mK hrp;cases b1<;>cases B
 all_goals
  have hb:=hb2'.out;simp only [Bool.false_or,Bool.true_or,Bool.not_false,Bool.not_true] at hb;subst hb;clear hb2';go_enter Tryz.func35,Tryz.ntmps35;have tok:Tok 0:=.mk _
  go_wp2_with (first
   | (replace tok:Tok 1:=nxT 0 tok;go_at_call 34;rw [←hw1.out];refine KW.out.mono ?_;rintro e w2 ⟨rfl,hR2,hC2⟩;replace hR2:=mK hR2;replace hC2:=mK hC2)
   | ((replace tok:Tok 2:=nxT 1 tok;go_at_call 85;refine (KP.out _ (hM.out _ ((Chg.of_ext hE1.out _).trans hC2.out))).mono ?_;rintro e w3 ⟨f,rfl,hx3,hf3⟩;(rw [←hE.out]));((obtain ⟨w4,hw4⟩:=nmE (w3.alloc (.cells #[.bool f.b1,.slice f.a1 f.n1 f.c1,.bool f.b2,.slice f.a2 f.n2 f.c2] 28))));((have hx4:Ext w3 w4:=by rw [hw4];exact (xR w3).al _));((have z4:w4.heap[w3.heap.size]? = some (.cells #[.bool f.b1,.slice f.a1 f.n1 f.c1,.bool f.b2,.slice f.a2 f.n2 f.c2] 28 (0,0)):=by rw [hw4];exact heap_alloc_new _ _));((obtain ⟨s,hs1,hs2⟩:=(hR2.out.ext (hx3.trans hx4)).bad));((obtain ⟨-,y1⟩:=ceL1 hs1));((have f1:w4.frozen? ⟨rp,1,none⟩=false:=Lib.frozen_of_heap hs1 1));((have e1:=mK (fun v=>show w4.setCell ⟨rp,1,none⟩ v=w4.setRow rp #[s,v] from (setCell_eq_setRow w4 rp 1 _ _ _ v hs1).trans rfl)));((have hl3:rp<w3.heap.size:=Nat.lt_of_lt_of_le hR2.out.lt hx3.size));((have z5:=mK (fun v=>show (w4.setRow rp #[s,v]).heap[w3.heap.size]? = some (.cells #[.bool f.b1,.slice f.a1 f.n1 f.c1,.bool f.b2,.slice f.a2 f.n2 f.c2] 28 (0,0)) from (setRow_other _ _ _ _ (by omega)).trans z4)));((have zR:=mK (fun v=>show (w4.setRow rp #[s,v]).heap[w.heap.size]? = some (.cells #[.bool false,.slice none 0 0,.bool false,.slice none 0 0] 28 (0,0)) from (setRow_other _ _ _ _ (by have:=hrp.out;omega)).trans ((hx3.trans hx4).blk ((hC2.out.block _ (Array.getElem?_eq_some_iff.1 z1.out).1 (by have:=hrp.out;omega)).trans z1.out)))));((have hf5:=mK (fun x r hx=>(hf3 x (hTF.out x r hx).1 (hTF.out x r hx).2.1).ext hx4)));((replace hx3:=mK (hx3.trans hx4));(replace hs2:=mK hs2);(replace hw4:=mK hw4);(replace hl3:=mK hl3);clear hf3 z4 hs1 hx4))
   | (replace tok:Tok 3:=nxT 2 tok;rw [←hw4.out])
   | (replace tok:Tok 4:=nxT 3 tok;rw [e1.out];refine wpList_load_row (by rfl) 28 (.tmp 3) rfl (w3.heap.size) rfl 28 #[.bool f.b1,.slice f.a1 f.n1 f.c1,.bool f.b2,.slice f.a2 f.n2 f.c2] (0,0) _ (z5.out _) Tryz.underlying28 rfl (by kernel_rfl) ?_)
   | ((have _t:Tok 4:=tok);clear _t;clear tok;refine wpList_store_row rfl 28 (.tmp 2) (.tmp 22) rfl (w.heap.size) #[.bool f.b1,.slice f.a1 f.n1 f.c1,.bool f.b2,.slice f.a2 f.n2 f.c2] rfl rfl 28 _ (zR.out _) (by kernel_rfl) rfl (by kernel_rfl) ?_))
  refine bodyPost_ret (results_cell_row rfl _ _ w.heap.size 28 #[.bool f.b1,.slice f.a1 f.n1 f.c1,.bool f.b2,.slice f.a2 f.n2 f.c2] (0,0) _ rfl (setRow_heap _ _ _ _ _ _ (zR.out _)) Tryz.underlying28 rfl (by kernel_rfl)) rfl ⟨f,rfl,(hs2.out _).set (zR.out _) (by decide) (by have:=hrp.out;omega) _,?_,fun x r hx=>(((hf5.out x r hx).row (Nat.lt_of_lt_of_le hR2.out.lt (nR _)) _).row (Nat.lt_of_lt_of_le (by have:=hsz1.out;omega) hC2.out.size) _).mono (nT hE1.out.size hC2.out.size)⟩;refine (((Chg.of_ext hE1.out (fun k=>k=rp∨k=w.heap.size)).trans ((hC2.out.mono fun k _ hk=>.inl hk).trans ((Chg.of_ext hx3.out _).trans (((Aq w4 rp _).mono fun k _ hk=>.inl hk).trans ((Aq _ w.heap.size _).mono fun k _ hk=>.inr hk))))).mono fun k hk h=>?_);rcases h with h|h
  ·exact h
  ·omega
end Go.Proofs.YtlknpnommcohkaaGreatDoor
namespace Go.Proofs
open Go.Shelf
def Tryz.laysC172_ren:Go.Shelf.Ren:=⟨fun|172=>86|244=>141|245=>142|247=>201|279=>202|280=>203|281=>204|282=>205|287=>251|316=>252|171=>26|205=>253|321=>296|322=>297|243=>70|246=>120|283=>175|284=>176|285=>177|286=>178|129=>229|317=>228|318=>230|319=>231|320=>232|337=>279|338=>280|n=>n,fun|9=>9|3=>3|75=>110|76=>112|4=>4|5=>5|167=>210|37=>62|0=>0|85=>211|2=>2|168=>213|53=>189|175=>246|46=>196|210=>250|127=>115|145=>280|143=>278|21=>21|171=>188|173=>192|212=>232|51=>150|20=>20|213=>233|232=>286|233=>287|80=>77|n=>n,fun|15=>2|16=>3|17=>0|18=>7|19=>8|n=>n⟩
theorem Tryz.laysC172:Go.Proofs.LaysC.n172 Tryz.prog Tryz.laysC172_ren:={
 mixed:=by kernel_rfl
 f129:=Tryz.func229.trans (congrArg some (by kernel_rfl))
 f171:=Tryz.func26.trans (congrArg some (by kernel_rfl))
 f172:=Tryz.func86.trans (congrArg some (by kernel_rfl))
 f205:=Tryz.func253.trans (congrArg some (by kernel_rfl))
 f243:=Tryz.func70.trans (congrArg some (by kernel_rfl))
 f244:=Tryz.func141.trans (congrArg some (by kernel_rfl))
 f245:=Tryz.func142.trans (congrArg some (by kernel_rfl))
 f246:=Tryz.func120.trans (congrArg some (by kernel_rfl))
 f247:=Tryz.func201.trans (congrArg some (by kernel_rfl))
 f279:=Tryz.func202.trans (congrArg some (by kernel_rfl))
 f280:=Tryz.func203.trans (congrArg some (by kernel_rfl))
 f281:=Tryz.func204.trans (congrArg some (by kernel_rfl))
 f282:=Tryz.func205.trans (congrArg some (by kernel_rfl))
 f283:=Tryz.func175.trans (congrArg some (by kernel_rfl))
 f284:=Tryz.func176.trans (congrArg some (by kernel_rfl))
 f285:=Tryz.func177.trans (congrArg some (by kernel_rfl))
 f286:=Tryz.func178.trans (congrArg some (by kernel_rfl))
 f287:=Tryz.func251.trans (congrArg some (by kernel_rfl))
 f316:=Tryz.func252.trans (congrArg some (by kernel_rfl))
 f317:=Tryz.func228.trans (congrArg some (by kernel_rfl))
 f318:=Tryz.func230.trans (congrArg some (by kernel_rfl))
 f319:=Tryz.func231.trans (congrArg some (by kernel_rfl))
 f320:=Tryz.func232.trans (congrArg some (by kernel_rfl))
 f321:=Tryz.func296.trans (congrArg some (by kernel_rfl))
 f322:=Tryz.func297.trans (congrArg some (by kernel_rfl))
 f337:=Tryz.func279.trans (congrArg some (by kernel_rfl))
 f338:=Tryz.func280.trans (congrArg some (by kernel_rfl))
 t0:=Tryz.underlying0
 a0:=Tryz.isAgg0
 z0:=Tryz.sizeOf0
 v0:=Tryz.zeroValue0
 t2:=Tryz.underlying2
 a2:=Tryz.isAgg2
 z2:=Tryz.sizeOf2
 v2:=Tryz.zeroValue2
 t3:=Tryz.underlying3
 a3:=Tryz.isAgg3
 z3:=Tryz.sizeOf3
 v3:=Tryz.zeroValue3
 t4:=Tryz.underlying4
 a4:=Tryz.isAgg4
 z4:=Tryz.sizeOf4
 v4:=Tryz.zeroValue4
 t5:=Tryz.underlying5
 a5:=Tryz.isAgg5
 z5:=Tryz.sizeOf5
 v5:=Tryz.zeroValue5
 t9:=Tryz.underlying9
 a9:=Tryz.isAgg9
 z9:=Tryz.sizeOf9
 v9:=Tryz.zeroValue9
 t20:=Tryz.underlying20
 a20:=Tryz.isAgg20
 z20:=Tryz.sizeOf20
 v20:=Tryz.zeroValue20
 t21:=Tryz.underlying21
 a21:=Tryz.isAgg21
 z21:=Tryz.sizeOf21
 v21:=Tryz.zeroValue21
 t37:=Tryz.underlying62
 a37:=Tryz.isAgg62
 z37:=Tryz.sizeOf62
 v37:=Tryz.zeroValue62
 t46:=Tryz.underlying196
 a46:=Tryz.isAgg196
 z46:=Tryz.sizeOf196
 v46:=Tryz.zeroValue196
 t51:=Tryz.underlying150
 a51:=Tryz.isAgg150
 z51:=Tryz.sizeOf150
 v51:=Tryz.zeroValue150
 t53:=Tryz.underlying189
 a53:=Tryz.isAgg189
 z53:=Tryz.sizeOf189
 v53:=Tryz.zeroValue189
 t75:=Tryz.underlying110
 a75:=Tryz.isAgg110
 z75:=Tryz.sizeOf110
 v75:=Tryz.zeroValue110
 t76:=Tryz.underlying112
 a76:=Tryz.isAgg112
 z76:=Tryz.sizeOf112
 v76:=Tryz.zeroValue112
 t85:=Tryz.underlying211
 a85:=Tryz.isAgg211
 z85:=Tryz.sizeOf211
 v85:=Tryz.zeroValue211
 t127:=Tryz.underlying115
 a127:=Tryz.isAgg115
 z127:=Tryz.sizeOf115
 v127:=Tryz.zeroValue115
 t143:=Tryz.underlying278
 a143:=Tryz.isAgg278
 z143:=Tryz.sizeOf278
 v143:=Tryz.zeroValue278
 t145:=Tryz.underlying280
 a145:=Tryz.isAgg280
 z145:=Tryz.sizeOf280
 v145:=Tryz.zeroValue280
 t167:=Tryz.underlying210
 a167:=Tryz.isAgg210
 z167:=Tryz.sizeOf210
 v167:=Tryz.zeroValue210
 t168:=Tryz.underlying213
 a168:=Tryz.isAgg213
 z168:=Tryz.sizeOf213
 v168:=Tryz.zeroValue213
 t171:=Tryz.underlying188
 a171:=Tryz.isAgg188
 z171:=Tryz.sizeOf188
 v171:=Tryz.zeroValue188
 t173:=Tryz.underlying192
 a173:=Tryz.isAgg192
 z173:=Tryz.sizeOf192
 v173:=Tryz.zeroValue192
 t175:=Tryz.underlying246
 a175:=Tryz.isAgg246
 z175:=Tryz.sizeOf246
 v175:=Tryz.zeroValue246
 t210:=Tryz.underlying250
 a210:=Tryz.isAgg250
 z210:=Tryz.sizeOf250
 v210:=Tryz.zeroValue250
 t212:=Tryz.underlying232
 a212:=Tryz.isAgg232
 z212:=Tryz.sizeOf232
 v212:=Tryz.zeroValue232
 t213:=Tryz.underlying233
 a213:=Tryz.isAgg233
 z213:=Tryz.sizeOf233
 t232:=Tryz.underlying286
 a232:=Tryz.isAgg286
 z232:=Tryz.sizeOf286
 v232:=Tryz.zeroValue286
 t233:=Tryz.underlying287
 a233:=Tryz.isAgg287
 z233:=Tryz.sizeOf287
 v233:=Tryz.zeroValue287
 g15:=by kernel_rfl
 g16:=by kernel_rfl
 g17:=by kernel_rfl
 g18:=by kernel_rfl
 g19:=by kernel_rfl
 t80:=Tryz.underlying77
 a80:=Tryz.isAgg77
 z80:=Tryz.sizeOf77
 v80:=Tryz.zeroValue77
 i0:=by kernel_rfl
 i2:=by kernel_rfl
 i3:=by kernel_rfl
 i4:=by kernel_rfl
 i5:=by kernel_rfl
 i9:=by kernel_rfl
 i20:=by kernel_rfl
 i21:=by kernel_rfl
 i37:=by kernel_rfl
 i46:=by kernel_rfl
 i51:=by kernel_rfl
 i53:=by kernel_rfl
 i75:=by kernel_rfl
 i76:=by kernel_rfl
 i80:=by kernel_rfl
 i85:=by kernel_rfl
 i127:=by kernel_rfl
 i143:=by kernel_rfl
 i145:=by kernel_rfl
 i167:=by kernel_rfl
 i168:=by kernel_rfl
 i171:=by kernel_rfl
 i173:=by kernel_rfl
 i175:=by kernel_rfl
 i210:=by kernel_rfl
 i212:=by kernel_rfl
 i232:=by kernel_rfl
 i233:=by kernel_rfl
 m15:=by kernel_rfl
 m16:=by kernel_rfl
 m17:=by kernel_rfl
 m18:=by kernel_rfl
 m19:=by kernel_rfl
 c0:=by kernel_rfl
 c2:=by kernel_rfl
 c3:=by kernel_rfl
 c4:=by kernel_rfl
 c5:=by kernel_rfl
 c9:=by kernel_rfl
 c20:=by kernel_rfl
 c21:=by kernel_rfl
 c37:=by kernel_rfl
 c46:=by kernel_rfl
 c51:=by kernel_rfl
 c53:=by kernel_rfl
 c75:=by kernel_rfl
 c76:=by kernel_rfl
 c80:=by kernel_rfl
 c85:=by kernel_rfl
 c127:=by kernel_rfl
 c143:=by kernel_rfl
 c145:=by kernel_rfl
 c167:=by kernel_rfl
 c168:=by kernel_rfl
 c171:=by kernel_rfl
 c173:=by kernel_rfl
 c175:=by kernel_rfl
 c210:=by kernel_rfl
 c212:=by kernel_rfl
 c213:=by kernel_rfl
 c232:=by kernel_rfl
 c233:=by kernel_rfl }
end Go.Proofs
namespace Go.Proofs.YtlknpnommcohkaaGreatDoor
set_option maxRecDepth 100000
open Go Go.RowKit Go.Proofs
def ErrA (w:World):Prop:=(∃ tp p,w.var? Tryz.prog "strconv.ErrSyntax" = some #[.iface tp p])∧(∃ tp p,w.var? Tryz.prog "strconv.ErrRange" = some #[.iface tp p])
theorem Qg {w w':World}{nm:String}{cs:Array Value}(h:w.var? Tryz.prog nm=some cs)(e:Ext w w'):w'.var? Tryz.prog nm=some cs:=by
 unfold World.var? at *;cases hg:Tryz.prog.globalNamed nm with
 | none=>rw [hg] at h;cases h
 | some g=>
  rw [hg] at h;simp only [Option.bind_some] at h ⊢;cases hb:w.heap[g]? with
  | none=>rw [hb] at h;cases h
  | some o=>rw [e.blk hb];rw [hb] at h;exact h
theorem ErrA.ext {w w':World}(h:ErrA w)(e:Ext w w'):ErrA w':=by
 obtain ⟨⟨t1,p1,h1⟩,⟨t2,p2,h2⟩⟩:=h;exact ⟨⟨t1,p1,Qg h1 e⟩,⟨t2,p2,Qg h2 e⟩⟩
theorem Acq (s:ByteArray)(hs:s.size≤65536)(v:Int)(h:Lib.atoiAll s.data.toList=.ok v)(w:World) :
  Calls Tryz.prog 86 #[.string s] w fun e w'=>e=.returned (.tuple #[.int .i64 v,.nilIface])∧Ext w w':=
 (Any.strconv_Atoi_ok Tryz.laysC172 s (by omega) v h w).mono fun e w' h=>by
  obtain ⟨rfl,rfl|⟨t,rfl⟩⟩:=h
  ·exact ⟨rfl,xR _⟩
  ·exact ⟨rfl,Lib.bytesWorld_below _ _ _⟩
theorem Zs (s:ByteArray)(hs:s.size≤65536)(h:∀ v,Lib.atoiAll s.data.toList≠.ok v)(w:World)(he:ErrA w) :
  Calls Tryz.prog 86 #[.string s] w fun e w'=>∃ n t p,e=.returned (.tuple #[.int .i64 n,.iface t p])∧Ext w w':=by
 obtain ⟨⟨t1,p1,h1⟩,⟨t2,p2,h2⟩⟩:=he;cases hA:Lib.atoiAll s.data.toList
 case ok v=>exact absurd hA (h v)
 case range=>
  refine (Any.strconv_Atoi_range_var Tryz.laysC172 s (by omega) hA t2 p2 w h2).mono ?_;rintro e w' ⟨N,rfl,-,-,hx⟩;exact ⟨_,_,_,rfl,hx⟩
 refine (Any.strconv_Atoi_syntax_var Tryz.laysC172 s (by omega) hA t1 p1 w h1).mono ?_;rintro e w' ⟨N,rfl,-,-,hx⟩;exact ⟨_,_,_,rfl,hx⟩
theorem RdS.badE {rp:Nat}{R:WL}{b:Bool}{w:World}(h:RdS rp R b w):∃ s,w.heap[rp]? = some (.cells #[s,.bool b] 82 (0,0))∧∀ W,Ext w W→∀ b',RdS rp R b' (W.setRow rp #[s,.bool b']):=by
 obtain ⟨g,pre,a,c,h1,h2,h3,h4,h5⟩:=h;exact ⟨_,h1,fun W e b'=>⟨g,pre,a,c,setRow_heap _ _ _ _ _ _ (e.blk h1),h2,h3,(setRow_other _ _ _ _ h5).trans (e.blk h4),h5⟩⟩
def TkN (rp:Nat)(R:WL)(bad:Bool)(w:World)(e:Ending)(w':World):Prop:=
 ∃ n:Int,e=.returned (.int .i64 n)∧RdS rp R.tail (bad || !(tN R).isSome) w'∧Chg w w' (· = rp)∧∀ m r,tN R=some (m,r)→n=m
theorem Agm {R:WL}{v:Int}(h:Lib.atoiAll (R.headD [])=.ok v):(tN R).isSome=(!R.isEmpty&&decide (Lib.itoa v=R.headD []))∧∀ m r,tN R=some (m,r)→v=m:=by
 cases R with
 | nil=>exact ⟨rfl,fun m r h=>by cases h⟩
 | cons x t=>
  have h':Lib.atoiAll x=.ok v:=h
  have hn:numA x=if Lib.itoa v=x then some v else none:=by
   unfold numA;rw [h']
  refine ⟨?_,fun m r hm=>?_⟩
  ·show ((numA x).map _).isSome=(true&&decide (Lib.itoa v=x))
   rw [hn];split<;>rename_i hi<;>simp [hi]
  ·simp only [tN,Option.map_eq_some_iff,hn] at hm
   obtain ⟨k,hk,e⟩:=hm;split at hk
   ·cases hk
    cases e;rfl
   ·cases hk
theorem Afd {R:WL}(h:∀ v,Lib.atoiAll (R.headD [])≠.ok v):tN R=none:=by
 cases R with
 | nil=>rfl
 | cons x t=>
  have hn:numA x=none:=by
   unfold numA;split
   ·rename_i n hx
    exact absurd hx (h n)
   ·rfl
  simp [tN,hn]
theorem Nl (rp:Nat)(R:WL)(bad:Bool)(w:World)(h:RdS rp R bad w)(hs:∀ x∈R,x.length≤65536)(hT:∀ W,Chg w W (· = rp)→Tab10 W)(hEr:∀ W,Chg w W (· = rp)→ErrA W) :
  Calls Tryz.prog 36 #[.pointer (some ⟨rp,0,none⟩)] w (TkN rp R bad w):=by
 have KW:=mK (Ej rp R bad w h);obtain ⟨X,hX⟩:=nmE (R.headD [])
 have hXs:(⟨X.toArray⟩:ByteArray).size≤65536:=by
  have:X.length≤65536:=by
   rw [hX];cases R with
   | nil=>simp
   | cons x r=>exact hs x (by simp)
  simpa [ByteArray.size] using this
 obtain ⟨XB,hXB⟩:∃ XB:ByteArray,XB=⟨X.toArray⟩:=⟨_,rfl⟩
 have hXl:XB.data.toList=X:=by rw [hXB]
 rw [←hX,←hXB] at KW;rw [←hXB] at hXs;obtain ⟨b1,hb1⟩:=nmE (bad||R.isEmpty);rw [←hb1] at KW;obtain ⟨b2,hb2⟩:=nmE (bad || !(tN R).isSome);have HT:=mK hT;have HE:=mK hEr;by_cases hA:∃ v,Lib.atoiAll XB.data.toList=.ok v
 ·obtain ⟨v,hA⟩:=hA
  have KA:=mK (fun W=>Acq XB hXs v hA W);obtain ⟨v0,v1⟩:=Lib.atoiAll_bounds hA
  have KI:∀ W,Tab10 W→Calls Tryz.prog 26 #[.int .i64 v] W fun e w'=>e=.returned (.string ⟨(Lib.itoa v).toArray⟩)∧Ext W w':=fun W e=>(Tryz.strconv_Itoa v (by omega) (by omega) W e).mono fun e w' h=>by
   obtain ⟨rfl,k,os,rfl⟩:=h;exact ⟨rfl,⟨rfl,rfl,rfl,by simp [Go.Sort.grow,World.drewN],fun j hj=>by simp [Go.Sort.grow,World.drewN,Array.getElem?_append,hj]⟩⟩
  rw [hXl,hX] at hA;obtain ⟨hP,hV⟩:=Agm hA;rw [←hX] at hP;obtain ⟨IT,hIT⟩:∃ IT:ByteArray,IT=⟨(Lib.itoa v).toArray⟩:=⟨_,rfl⟩
  have hIl:IT.data.toList=Lib.itoa v:=by rw [hIT]
  rw [←hIT] at KI;obtain ⟨B,hB⟩:=nmE (decide (Lib.itoa v=X));rw [←hB] at hP
  have hb2':b2=(b1 || !B):=by
   rw [hb2,hP,hb1];cases bad<;>cases R.isEmpty<;>simp
  have hEq:(IT.toList==XB.toList)=B:=by
   rw [ByteArray.toList_eq,ByteArray.toList_eq,hIl,hXl,hB];by_cases e:Lib.itoa v=X<;>simp [e]
  unfold TkN;rw [←hb2];replace KI:=mK KI;replace hV:=mK hV;replace hb2':=mK hb2';clear h hs hT hEr hX hXs hXB hXl hb1 hb2 hA v0 v1 hP hIT hIl hB;cases b1<;>cases B
  all_goals
   have hb:=hb2'.out;simp only [Bool.false_or,Bool.true_or,Bool.not_false,Bool.not_true] at hb;subst hb;clear hb2';go_enter Tryz.func36,Tryz.ntmps36;have tok:Tok 0:=.mk _
   go_wp2_with (first
    | (replace tok:Tok 1:=nxT 0 tok;go_at_call 34;refine KW.out.mono ?_;rintro e w2 ⟨rfl,hR2,hC2⟩;replace hR2:=mK hR2;replace hC2:=mK hC2)
    | ((replace tok:Tok 2:=nxT 1 tok;go_at_call 86;refine (KA.out _).mono ?_;rintro e w3 ⟨rfl,hx3⟩);((obtain ⟨s,hs1,hs2⟩:=(hR2.out.ext hx3).badE));((obtain ⟨-,y1⟩:=ceL1 hs1));((have hC3:=hC2.out.trans (Chg.of_ext hx3 _)));((have f1:w3.frozen? ⟨rp,1,none⟩=false:=Lib.frozen_of_heap hs1 1));((have e1:=mK (fun W (e:Ext w3 W) v=>show W.setCell ⟨rp,1,none⟩ v=W.setRow rp #[s,v] from (setCell_eq_setRow W rp 1 _ _ _ v (e.blk hs1)).trans rfl)));((have hs1':=mK hs1);(replace hs2:=mK hs2);(replace hC3:=mK hC3);(have x4:=mK (xR w3));clear hs1 hx3))
    | (replace tok:Tok 3:=nxT 2 tok;go_at_call 26;refine (KI.out _ (HT.out _ hC3.out)).mono ?_;rintro e w4 ⟨rfl,hx4⟩;(obtain ⟨-,y2⟩:=ceL1 (hx4.blk hs1'.out));(have f2:w4.frozen? ⟨rp,1,none⟩=false:=Lib.frozen_of_heap (hx4.blk hs1'.out) 1);replace x4:=mK hx4;clear hx4))
   go_ret;rw [e1.out _ x4.out];exact ⟨v,rfl,hs2.out _ x4.out _,hC3.out.trans ((Chg.of_ext x4.out _).trans (Aq _ rp _)),hV.out⟩
 ·have hA:∀ v,Lib.atoiAll XB.data.toList≠.ok v:=fun v e=>hA ⟨v,e⟩
  have KA:=mK (fun W he=>Zs XB hXs hA W he)
  have hN:tN R=none:=Afd fun v=>by
   have:=hA v
   rwa [hXl,hX] at this
  have hb2':b2=true:=by rw [hb2,hN];simp
  unfold TkN;rw [←hb2,hN];subst hb2';clear h hs hT hEr hX hXs hXB hXl hb1 hb2 hA hN;cases b1
  all_goals
   go_enter Tryz.func36,Tryz.ntmps36;have tok:Tok 0:=.mk _
   go_wp2_with (first
    | (replace tok:Tok 1:=nxT 0 tok;go_at_call 34;refine KW.out.mono ?_;rintro e w2 ⟨rfl,hR2,hC2⟩;replace hR2:=mK hR2;replace hC2:=mK hC2)
    | ((replace tok:Tok 2:=nxT 1 tok;go_at_call 86;refine (KA.out _ (HE.out _ hC2.out)).mono ?_;rintro e w3 ⟨v,tp,p,rfl,hx3⟩);((obtain ⟨s,hs1,hs2⟩:=(hR2.out.ext hx3).badE));((obtain ⟨-,y1⟩:=ceL1 hs1));((have hC3:=hC2.out.trans (Chg.of_ext hx3 _)));((have f1:w3.frozen? ⟨rp,1,none⟩=false:=Lib.frozen_of_heap hs1 1));((have e1:=mK (fun v=>show w3.setCell ⟨rp,1,none⟩ v=w3.setRow rp #[s,v] from (setCell_eq_setRow w3 rp 1 _ _ _ v hs1).trans rfl)));((replace hs2:=mK hs2);(replace hC3:=mK hC3);clear hs1 hx3)))
   go_ret;rw [e1.out];exact ⟨v,rfl,hs2.out _ (xR _) _,hC3.out.trans (Aq _ rp _),fun m r h=>by cases h⟩
theorem Abr {w:World}{base g:Nat}(hb:base≤g)(hg:w.heap[g]? = some (.cells #[.int .u32 1] 150 (0,0))):IntO w base (.agg #[.bool false,.slice (some ⟨g,0,none⟩) 1 1]) 1:=by
 refine ⟨.slice (some ⟨g,0,none⟩) 1 1,by simp,?_⟩;rw [show (1:Int).natAbs=1 from rfl,Ht (by omega) (by omega)];exact ⟨rfl,.inr ⟨g,1,#[.int .u32 1],rfl,hb,hg,(by first|omega|rfl|decide|simp [limV]),(by first|omega|rfl|decide|simp [limV]),(by first|omega|rfl|decide|simp [limV]),(by first|rfl|simp [limV])⟩⟩
theorem Fa (w:World):Calls Tryz.prog 87 #[] w fun e w'=>∃ f:FV,e=.returned (.agg #[.bool f.b1,.slice f.a1 f.n1 f.c1,.bool f.b2,.slice f.a2 f.n2 f.c2])∧Ext w w'∧FracO w' w.heap.size (.agg #[.bool f.b1,.slice f.a1 f.n1 f.c1,.bool f.b2,.slice f.a2 f.n2 f.c2]) 0:=by
 obtain ⟨w2,hw2⟩:=nmE ((w.alloc (.cells #[.bool false,.slice none 0 0,.bool false,.slice none 0 0] 28)).alloc (.cells #[.int .u32 1] 150));have hE:=aLe2 hw2;have z0:=aL20 hw2;have z1:=aL21 hw2;obtain ⟨f,hf⟩:∃ f:FV,f=⟨false,none,0,0,false,some ⟨w.heap.size+1,0,none⟩,1,1⟩:=⟨_,rfl⟩
 have hz:IntO w2 (w.heap.size+1) (.agg #[.bool false,.slice none 0 0]) 0:=⟨.slice none 0 0,by simp,by simp [Az];exact Fh _ _⟩
 have R:FracO w2 (w.heap.size+1) (.agg #[.bool false,.slice none 0 0,.bool false,.slice (some ⟨w.heap.size+1,0,none⟩) 1 1]) 0:=⟨_,_,_,_,_,_,_,_,rfl,hz,Abr (nR _) z1⟩
 have FR:=mK ((R.row (g:=w.heap.size) (by omega) #[.bool false,.slice none 0 0,.bool false,.slice (some ⟨w.heap.size+1,0,none⟩) 1 1]).mono (show w.heap.size≤w.heap.size+1 by omega));have FE:=mK (hE.row (nR _) #[.bool false,.slice none 0 0,.bool false,.slice (some ⟨w.heap.size+1,0,none⟩) 1 1]);replace z0:=mK z0;replace hw2:=mK hw2;clear hE z1 hz R hf f;go_enter Tryz.func87,Tryz.ntmps87;go_wp2_with (rw [←hw2.out];refine wpList_store_row rfl 28 (.tmp 0) (.tmp 3) rfl w.heap.size #[.bool false,.slice none 0 0,.bool false,.slice (some ⟨w.heap.size+1,0,none⟩) 1 1] rfl rfl 28 _ z0.out (by kernel_rfl) rfl (by kernel_rfl) ?_);exact bodyPost_ret (results_cell_row rfl _ _ w.heap.size 28 #[.bool false,.slice none 0 0,.bool false,.slice (some ⟨w.heap.size+1,0,none⟩) 1 1] (0,0) _ rfl (setRow_heap _ _ _ _ _ _ z0.out) Tryz.underlying28 rfl (by kernel_rfl)) rfl ⟨⟨false,none,0,0,false,some ⟨w.heap.size+1,0,none⟩,1,1⟩,rfl,FE.out,FR.out⟩
end Go.Proofs.YtlknpnommcohkaaGreatDoor
