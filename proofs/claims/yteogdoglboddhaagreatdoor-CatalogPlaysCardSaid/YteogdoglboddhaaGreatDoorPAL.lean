/-
  A catalogue and the reference's, side by side; which blocks they lean on. What goes into a catalogue, in plain words: of a list of parts, those that go in, in their order; the catalogue has just these. law01: IntSize, FracSize, Lowest, FracCost. PeriodPell, walked: printed by tools/gen_pell.py. What comes in, opened: a fraction, a matrix, a ray as data. What comes in, opened: an element, a part, an op as data: printed by tools/gen_opens.py. What comes in: a list of parts as data. Loads out of the middle of a row whose cells are known one by one: no program. The catalogue's Put, where it refuses a part: printed by tools/gen_put.py. law25: filled: a catalogue of what goes of a list, and the parts that went in. SamePart of two parts that are the same. law01: SameParts of two lists of the same parts. The catalogue's Drop and Get. Near's closure off: how far a part's power is from another one. cmp.Or of three numbers; Near's closure that compares two parts.
-/
import Derived.Test.YteogdoglboddhaaGreatDoorPAK
import Derived.Test.YteogdoglboddhaaGreatDoorPAI
import Derived.Test.YteogdoglboddhaaGreatDoorPAF
import Derived.Test.YteogdoglboddhaaGreatDoorPAC
import Derived.Test.YteogdoglboddhaaGreatDoorPAE
import Derived.ProofKit
import Derived.OpenShut
import Derived.Lib.SmallJoins
import Derived.Carry
import Derived.Deep.Slices
import Derived.SizedLaws
import Derived.Deep.MidRow
import Derived.Test.YteogdoglboddhaaGreatDoorPAJ
import Derived.Test.YteogdoglboddhaaGreatDoorPAG
import Derived.Test.YteogdoglboddhaaGreatDoorPAD
set_option maxHeartbeats 6400000
namespace Go.Proofs.YteogdoglboddhaaGreatDoor
set_option maxRecDepth 100000
open Go Go.RowKit Go.Proofs
def live1:Value→List Nat
 | .slice (some a) (_+1) _=>[a.block]
 | _=>[]
def Nu (v:Value):List Nat:=v.cells.toList.flatMap live1
theorem Adc {v:Value}{g:Nat}(h:g∈live1 v):Aloof.blk1 v=some g:=by
 unfold live1 at h;split at h
 ·rw [List.mem_singleton] at h
  rw [h];rfl
 ·cases h
theorem Mr {v:Value}{g:Nat}(h:g∈Nu v):g∈Aloof.blks v:=by
 obtain ⟨c,hc,hg⟩:=List.mem_flatMap.1 h;exact List.mem_filterMap.2 ⟨c,hc,Adc hg⟩
theorem MagR.nearL {w w':World}{a:Option Addr}{n c:Nat}{l:List Nat}(h:MagR w (.slice a n c) l)(e:∀ g∈live1 (.slice a n c),w'.heap[g]? = w.heap[g]?):MagR w' (.slice a n c) l:=by
 obtain ⟨a',c',h0,h1,b,off,h2,h3⟩:=h;cases h0;refine ⟨_,_,rfl,h1,b,off,h2,fun j hj=>?_⟩;have hj':j<l.length:=by rw [Ah] at hj;exact hj
 have hne:limV l≠[]:=by intro h;rw [h] at hj;exact absurd hj (Nat.not_lt_zero _)
 obtain ⟨k,hk⟩:∃ k,l.length=k+1:=⟨l.length-1,by omega⟩
 have hb:=e b (by rw [h2 hne,hk];exact List.mem_singleton.2 rfl);rw [←h3 j hj];exact World.cell?_of_block hb
theorem MagR.liveLt {w:World}{a:Option Addr}{n c:Nat}{l:List Nat}(h:MagR w (.slice a n c) l):∀ g∈live1 (.slice a n c),g<w.heap.size:=by
 obtain ⟨a',c',h0,h1,b,off,h2,h3⟩:=h;cases h0;intro g hg;cases hl:l with
 | nil=>
  rw [hl] at hg;cases a<;>cases hg
 | cons x r=>
  have hlen:0<(limV l).length:=by rw [Ah,hl];simp
  have hne:limV l≠[]:=by intro h;rw [h] at hlen;exact absurd hlen (Nat.not_lt_zero _)
  rw [h2 hne,hl] at hg;have:g=b:=by simpa [live1] using hg
  subst this;exact World.block_lt_of_cell? _ _ (h3 0 hlen)
theorem Mq (s:ByteArray)(k co:Int)(b1:Bool)(a1:Option Addr)(n1 c1:Nat)(b2:Bool)(a2:Option Addr)(n2 c2:Nat)(b3:Bool)(a3:Option Addr)(n3 c3:Nat)(b4:Bool)(a4:Option Addr)(n4 c4:Nat){g:Nat} :
  g∈Nu (.agg #[.string s,.int .u8 k,.bool b1,.slice a1 n1 c1,.bool b2,.slice a2 n2 c2,.bool b3,.slice a3 n3 c3,.bool b4,.slice a4 n4 c4,.int .i64 co])↔g∈live1 (.slice a1 n1 c1)∨g∈live1 (.slice a2 n2 c2)∨g∈live1 (.slice a3 n3 c3)∨g∈live1 (.slice a4 n4 c4):=by
 have e1:live1 (.string s)=[]:=rfl;have e2:live1 (.int .u8 k)=[]:=rfl;have e3:live1 (.int .i64 co)=[]:=rfl;have e4:∀ b,live1 (.bool b)=[]:=fun _=>rfl;simp [Nu,Value.cells,e1,e2,e3,e4]
theorem IntR.mag {w:World}{b:Bool}{s:Value}{x:Int}(h:IntR w (.agg #[.bool b,s]) x):b=decide (x<0)∧MagR w s (lim x.natAbs):=by
 obtain ⟨s',e,hm⟩:=h;cases e;exact ⟨rfl,hm⟩
theorem IntR.of_mag {w:World}{b:Bool}{s:Value}{x:Int}(hb:b=decide (x<0))(h:MagR w s (lim x.natAbs)):IntR w (.agg #[.bool b,s]) x:=⟨s,by rw [hb],h⟩
theorem PartR.nearL {w w':World}{v:Value}{d:PD}(h:PartR w v d)(e:∀ g∈Nu v,w'.heap[g]? = w.heap[g]?):PartR w' v d:=by
 obtain ⟨b1,a1,n1,c1,b2,a2,n2,c2,b3,a3,n3,c3,b4,a4,n4,c4,rfl,⟨x1,y1,m1,d1,x2,y2,m2,d2,e1,i1,i2⟩,⟨x3,y3,m3,d3,x4,y4,m4,d4,e2,i3,i4⟩⟩:=h;cases e1;cases e2;have e':=fun g h=>e g ((Mq ..).2 h);obtain ⟨z1,k1⟩:=i1.mag;obtain ⟨z2,k2⟩:=i2.mag;obtain ⟨z3,k3⟩:=i3.mag;obtain ⟨z4,k4⟩:=i4.mag;exact ⟨_,_,_,_,_,_,_,_,_,_,_,_,_,_,_,_,rfl,⟨_,_,_,_,_,_,_,_,rfl,.of_mag z1 (k1.nearL fun g hg=>e' g (.inl hg)),.of_mag z2 (k2.nearL fun g hg=>e' g (.inr (.inl hg)))⟩,⟨_,_,_,_,_,_,_,_,rfl,.of_mag z3 (k3.nearL fun g hg=>e' g (.inr (.inr (.inl hg)))),.of_mag z4 (k4.nearL fun g hg=>e' g (.inr (.inr (.inr hg))))⟩⟩
theorem PartR.liveLt {w:World}{v:Value}{d:PD}(h:PartR w v d):∀ g∈Nu v,g<w.heap.size:=by
 obtain ⟨b1,a1,n1,c1,b2,a2,n2,c2,b3,a3,n3,c3,b4,a4,n4,c4,rfl,⟨x1,y1,m1,d1,x2,y2,m2,d2,e1,i1,i2⟩,⟨x3,y3,m3,d3,x4,y4,m4,d4,e2,i3,i4⟩⟩:=h;cases e1;cases e2;intro g hg;rcases (Mq ..).1 hg with hg|hg|hg|hg
 ·exact i1.mag.2.liveLt g hg
 ·exact i2.mag.2.liveLt g hg
 ·exact i3.mag.2.liveLt g hg
 ·exact i4.mag.2.liveLt g hg
def refB (l:Value)(rs:List (PD×Value))(k:Nat):Prop:=l.ownBlock=some k∨∃ x∈rs,k∈Nu x.2
theorem RefC.lt {w:World}{l:Value}{rs:List (PD×Value)}(h:RefC w l rs):∀ k,refB l rs k→k<w.heap.size:=by
 rintro k (hk|⟨x,hx,hk⟩)
 ·exact (h.row.lt k hk).2
 ·exact (h.part x hx).liveLt k hk
theorem RefC.nearL {w w':World}{l:Value}{rs:List (PD×Value)}(h:RefC w l rs)(e:∀ k,refB l rs k→w'.heap[k]? = w.heap[k]?):RefC w' l rs:=by
 refine ⟨⟨h.row.1,?_⟩,fun x hx=>(h.part x hx).nearL fun k hk=>e k (.inr ⟨x,hx,hk⟩),h.ris,h.ok,h.few⟩;rcases h.row.2 with h2|⟨g,cap,cur,e2,h3,h4,r⟩
 ·exact .inl h2
 ·exact .inr ⟨g,cap,cur,e2,h3,(e g (.inl (by rw [e2];rfl))).trans h4,r⟩
def catL (g M:Nat)(es:List (PD×Value))(k:Nat):Prop:=k=g∨k=M∨∃ x∈es,k∈Nu x.2
theorem Cat.ltL {w:World}{g M:Nat}{es:List (PD×Value)}(h:Cat w g M es):∀ k,catL g M es k→k<w.heap.size:=by
 rintro k (hk|hk|⟨x,hx,hk⟩)
 ·exact h.lt k (.inl hk)
 ·exact h.lt k (.inr (.inl hk))
 ·exact h.lie x hx k (Mr hk)
theorem Cat.nearL {w w':World}{g M:Nat}{es:List (PD×Value)}(h:Cat w g M es)(hs:w.heap.size≤w'.heap.size)(e:∀ k,catL g M es k→w'.heap[k]? = w.heap[k]?):Cat w' g M es:=
 ⟨(e g (.inl rfl)).trans h.str,h.map.blk (e M (.inr (.inl rfl))),fun x hx=>(h.part x hx).nearL fun k hk=>e k (.inr (.inr ⟨x,hx,hk⟩)),fun x hx k hk=>Nat.lt_of_lt_of_le (h.lie x hx k hk) hs,h.out,h.ok,h.few⟩
structure Two (w:World) (g M:Nat) (es:List (PD×Value)) (l:Value) (rs:List (PD×Value)):Prop where
 cat:Cat w g M es
 ref:RefC w l rs
 same:rs.map (·.1)=es.map (·.1)
 ap:∀ k,refB l rs k→k≠M
def twoB (g M:Nat)(es:List (PD×Value))(l:Value)(rs:List (PD×Value))(k:Nat):Prop:=catL g M es k∨refB l rs k
theorem Two.lt {w:World}{g M:Nat}{es:List (PD×Value)}{l:Value}{rs:List (PD×Value)}(h:Two w g M es l rs):∀ k,twoB g M es l rs k→k<w.heap.size:=by
 rintro k (hk|hk)
 ·exact h.cat.ltL k hk
 ·exact h.ref.lt k hk
theorem Two.chg {w w':World}{g M:Nat}{es:List (PD×Value)}{l:Value}{rs:List (PD×Value)}{S:Nat→Prop}(h:Two w g M es l rs)(c:Chg w w' S)(hs:∀ k,twoB g M es l rs k→¬S k):Two w' g M es l rs:=
 ⟨h.cat.nearL c.size fun k hk=>c.block k (h.cat.ltL k hk) (hs k (.inl hk)),h.ref.nearL fun k hk=>c.block k (h.ref.lt k hk) (hs k (.inr hk)),h.same,h.ap⟩
theorem Two.ext {w w':World}{g M:Nat}{es:List (PD×Value)}{l:Value}{rs:List (PD×Value)}(h:Two w g M es l rs)(e:Ext w w'):Two w' g M es l rs:=
 h.chg (Chg.of_ext e (fun _=>False)) fun _ _ x=>x
theorem Vs {d:PD}{u v:Value}:∀ {es rs:List (PD×Value)},rs.map (·.1)=es.map (·.1)→(insP (d,u) rs).map (·.1)=(insP (d,v) es).map (·.1)
 | [],[],_=>rfl
 | [],_::_,h=>by cases h
 | _::_,[],h=>by cases h
 | x::es,y::rs,h=>by
  simp only [List.map_cons,List.cons.injEq] at h
  have ih:=Vs (u:=u) (v:=v) (d:=d) h.2
  unfold insP
  simp only [h.1]
  split
  ·simp [h.1,h.2]
  ·simp only [List.map_cons,h.1,ih]
structure RD where
 nm:ByteArray
 kd:Int
 co:Int
 op:Option Rat
 oq:Option Rat
def Nv (r:RD):Option PD:=match r.op,r.oq with
 | some p,some q=>if Co r.nm.data.toList&&mayP r.kd r.co (some p) (some q) then some ⟨r.nm,r.kd,p,q,r.co⟩ else none
 | _,_=>none
theorem Ss (b:Bool)(a:Option Addr)(n c:Nat)(w:World)(hn:n≤140737488355328) :
  Calls Tryz.prog 84 #[.agg #[.bool b,.slice a n c]] w fun e w'=>e=.returned (.int .i64 (1+n))∧Ext w w':=by
 have FE:=mK ((xR w).al (.cells #[.bool b,.slice a n c] 52));go_enter Tryz.func84,Tryz.ntmps84;go_wp2_with fail;go_ret;exact ⟨by trivial,FE.out⟩
theorem Ke (b b':Bool)(a a':Option Addr)(n c n' c':Nat)(w:World)(hn:n≤140737488355328)(hn':n'≤140737488355328) :
  Calls Tryz.prog 14 #[.agg #[.bool b,.slice a n c,.bool b',.slice a' n' c']] w fun e w'=>e=.returned (.int .i64 (1+n+(1+n')))∧Ext w w':=by
 have k1:=mK (fun w=>Ss b a n c w hn);have k2:=mK (fun w=>Ss b' a' n' c' w hn');go_enter Tryz.func14,Tryz.ntmps14;go_wp2_with fail;obtain ⟨wb,hwb⟩:=nmE (w.alloc (.cells #[.bool b,.slice a n c,.bool b',.slice a' n' c'] 54));have hE:=mK (aLe1 hwb);obtain ⟨c0,c1,c2,c3⟩:=ceX3 (aL10 hwb);rw [←hwb];clear hwb;apply Ad [.val _,.val _,.val (.int .i64 (1+n)),.val _,.val _,.val (.int .i64 (1+n')),.val (.int .i64 (1+n+(1+n')))] (by kernel_rfl) (stable_vals _ (stable_vals _ (stable_vals _ (stable_vals _ (stable_vals _ (stable_vals _ (stable_vals _ trivial)))))));iterate 2 (refine ⟨fun W hW _=>by go_simp;exact ⟨xR _,rfl⟩,?_⟩)
 refine ⟨fun W hW _=>?g2,?_⟩
 case g2=>
  go_simp;refine (k1.out W).mono ?_;rintro e w' ⟨rfl,h1⟩;exact ⟨rfl,h1⟩
 iterate 2 (refine ⟨fun W hW _=>by go_simp;exact ⟨xR _,rfl⟩,?_⟩)
 refine ⟨fun W hW _=>?g5,⟨fun W hW _=>by go_simp;exact ⟨xR _,by rw [IntKind.wrap_i64];omega⟩,?_⟩⟩
 case g5=>
  go_simp;refine (k2.out W).mono ?_;rintro e w' ⟨rfl,h1⟩;exact ⟨rfl,h1⟩
 intro W hW _;clear c0 c1 c2 c3;replace hE:=mK (hE.out.trans hW);clear hW;go_simp;go_wp2_with fail;go_ret;exact ⟨by trivial,hE.out⟩
def RawF (w:World)(v:Value):Prop:=
 ∃ b1 a1 c1 b2 a2 c2,∃ l1 l2:List Nat,v=.agg #[.bool b1,.slice a1 l1.length c1,.bool b2,.slice a2 l2.length c2]∧l1.length≤140737488355328∧l2.length≤140737488355328 ∧
  AnyR w (.agg #[.bool b1,.slice a1 l1.length c1]) b1 l1∧AnyR w (.agg #[.bool b2,.slice a2 l2.length c2]) b2 l2
end Go.Proofs.YteogdoglboddhaaGreatDoor
namespace Go.Proofs.YteogdoglboddhaaGreatDoor
set_option maxRecDepth 100000
open Go Go.ChangeShapes Go.WideShapes Go.ChangeAt Go.RowKit Go.Joins Go.Deep
theorem Adr:Tryz.prog.cellsOf 136=1:=by kernel_rfl
theorem Adu:Tryz.prog.bytesOf 136=4:=by kernel_rfl
theorem Aat:Tryz.prog.cellsOf 4=1:=by kernel_rfl
theorem Ads:Tryz.prog.cellsOf 50=1:=by kernel_rfl
theorem Tj:Tryz.prog.cellsOf 52=2:=by kernel_rfl
theorem Kl:Tryz.prog.cellsOf 54=4:=by kernel_rfl
theorem Aev:reachBytes≤140737488355328:=nT (Nat.le_of_lt reachBytes_lt) (Nat.le_of_eq (by kernel_rfl))
section
variable {H:Type} {enc:TypeId×Value→H} {w:World} {base:Nat} {spare:Nat→Bool} {held:Bool}
theorem Ae9 {fuel:Nat}{cs:List Value}{x:DataW H×List MemPlace}(h:DataW.trod enc Tryz.prog w base spare held fuel 50 cs=some x) :
  ∃ (a:Option Addr) (c:Nat) (l:List Nat),cs=[.slice a l.length c]∧OkL l∧l.length≤c∧Row w a (limV l)∧∀ M,(∀ k∈x.1.weights Tryz.prog 50,k≤M)→l.length*4≤M:=by
 rcases open_slice Tryz.underlying50 h with ⟨rfl,_⟩|⟨a,len,cap,m,n,D,Pl,rfl,hb,hl,hm,hmm,rfl,hi⟩
 ·exact ⟨none,0,[],rfl,Abe,nR _,Hf w,fun M _=>by simp⟩
 ·have hlm:len≤m:=by rw [hmm];split<;>omega
  have hcell:∀ i,i<len→∃ b:Nat,b<4294967296∧w.cell? (a.add i)=some (.int .u32 (b:Int)):=by
   intro i hlt;obtain ⟨cs',h1,h2⟩:=hi i (by omega);obtain ⟨b,rfl,_,hwf⟩:=DataW.trod_int Tryz.underlying136 h2;rw [Adr] at h1;obtain ⟨_,_,hat⟩:=World.cells?_some h1;have:=hat 0 (by omega)
   have hb2:0≤b∧b≤4294967295:=by
    have h:IntKind.u32.min≤b∧b≤IntKind.u32.max:=by simpa [Lit.wf] using hwf
    have e1:IntKind.u32.min=0:=rfl;have e2:IntKind.u32.max=4294967295:=rfl;omega
   obtain ⟨b',rfl⟩:=Int.eq_ofNat_of_zero_le hb2.1;refine ⟨b',by omega,?_⟩;simpa [Addr.add] using this
  have hlist:(List.range len).map (fun i=>match w.cell? (a.add i) with|some (.int _ b)=>b.toNat|_=>0)=(List.range len).map (fun i=>match w.cell? (a.add i) with|some (.int _ b)=>b.toNat|_=>0):=rfl;refine ⟨some a,cap,(List.range len).map (fun i=>match w.cell? (a.add i) with|some (.int _ b)=>b.toNat|_=>0),by simp,?_,by simpa using hl,?_,?_⟩
  ·intro y hy
   obtain ⟨i,hi',rfl⟩:=List.mem_map.1 hy;obtain ⟨b,hb1,hb2⟩:=hcell i (List.mem_range.1 hi');simp only [hb2];simpa using hb1
  ·refine ⟨a.block,a.off,fun hne=>?_,fun j hj=>?_⟩
   ·have h0:0<len:=by
     rcases Nat.eq_zero_or_pos len with h|h
     ·subst h;simp [limV] at hne
     ·exact h
    obtain ⟨b,_,hb'⟩:=hcell 0 h0;obtain ⟨bl,of,sp⟩:=a;have:sp=none:=by simpa [Addr.add] using World.cell?_spot hb'
    subst this;rfl
   ·have hj':j<len:=by simpa [limV] using hj
    obtain ⟨b,_,hb'⟩:=hcell j hj'
    have hadd:a.add j=⟨a.block,a.off+j,none⟩:=by
     obtain ⟨bl,of,sp⟩:=a
     have:sp=none∨j≠0:=by
      rcases Nat.eq_zero_or_pos j with h|h
      ·subst h
       exact .inl (by simpa [Addr.add] using World.cell?_spot hb')
      ·exact .inr (by omega)
     unfold Addr.add;split
     ·rename_i h
      rcases this with h2|h2
      ·simp [h,h2]
      ·exact absurd h h2
     ·rfl
    rw [←hadd,hb'];simp [limV,hj',hb']
  ·intro M hM
   have:=hM ((len+(m-len))*Tryz.prog.bytesOf 136) (by simp [DataW.weights,Tryz.underlying50]);rw [Adu] at this;simp only [List.length_map,List.length_range];omega
theorem Qf {α:Type}{l:List α}(h:l.length=2):∃ a b,l=[a,b]:=by
 match l,h with
 | [a,b],_=>exact ⟨a,b,rfl⟩
theorem Sp {α:Type}{l:List α}(h:l.length=4):∃ a b c d,l=[a,b,c,d]:=by
 match l,h with
 | [a,b,c,d],_=>exact ⟨a,b,c,d,rfl⟩
theorem Sl {fuel:Nat}{cs:List Value}{x:DataW H×List MemPlace}(h:DataW.trod enc Tryz.prog w base spare held fuel 52 cs=some x) :
  ∃ (b:Bool) (a:Option Addr) (c:Nat) (l:List Nat),cs=[.bool b,.slice a l.length c]∧OkL l∧l.length≤c∧Row w a (limV l)∧∀ M,(∀ k∈x.1.weights Tryz.prog 52,k≤M)→l.length*4≤M:=by
 obtain ⟨xs,n,_,rfl,hlen,hxl,hf⟩:=DataW.trod_struct Tryz.underlying52 h;rw [Tj] at hlen;obtain ⟨c0,c1,rfl⟩:=Qf hlen;obtain ⟨y0,y1,rfl⟩:=Qf hxl;have h0:DataW.trod enc Tryz.prog w base spare held n 4 (([c0,c1].drop 0).take (Tryz.prog.cellsOf 4))=some y0:=hf 0 _ rfl;have h1:DataW.trod enc Tryz.prog w base spare held n 50 (([c0,c1].drop 1).take (Tryz.prog.cellsOf 50))=some y1:=hf 1 _ rfl;rw [Aat] at h0;rw [Ads] at h1;obtain ⟨b,hb,_⟩:=DataW.trod_bool Tryz.underlying4 h0;obtain ⟨a,c,l,hs,hk,hc,hr,hM⟩:=Ae9 h1;simp at hb hs;subst hb hs;refine ⟨b,a,c,l,rfl,hk,hc,hr,fun M h=>hM M fun k hk=>h k ?_⟩;simp [DataW.weights,Tryz.underlying52,DataW.weightsEach,hk]
theorem Jp {fuel:Nat}{cs:List Value}{x:DataW H×List MemPlace}(h:DataW.trod enc Tryz.prog w base spare held fuel 54 cs=some x) :
  ∃ v1 v2 v3 v4,cs=[v1,v2,v3,v4]∧∀ M,(∀ k∈x.1.weights Tryz.prog 54,k≤M)→M≤140737488355328→RawF w (.agg #[v1,v2,v3,v4]):=by
 obtain ⟨xs,n,_,rfl,hlen,hxl,hf⟩:=DataW.trod_struct Tryz.underlying54 h;rw [Kl] at hlen;obtain ⟨c0,c1,c2,c3,rfl⟩:=Sp hlen;obtain ⟨y0,y1,rfl⟩:=Qf hxl;have h0:DataW.trod enc Tryz.prog w base spare held n 52 (([c0,c1,c2,c3].drop 0).take (Tryz.prog.cellsOf 52))=some y0:=hf 0 _ rfl;have h1:DataW.trod enc Tryz.prog w base spare held n 52 (([c0,c1,c2,c3].drop 2).take (Tryz.prog.cellsOf 52))=some y1:=hf 1 _ rfl;rw [Tj] at h0 h1;obtain ⟨b1,a1,m1,l1,hs1,hk1,hc1,hr1,hM1⟩:=Sl h0;obtain ⟨b2,a2,m2,l2,hs2,hk2,hc2,hr2,hM2⟩:=Sl h1;simp at hs1 hs2;obtain ⟨rfl,rfl⟩:=hs1;obtain ⟨rfl,rfl⟩:=hs2;refine ⟨_,_,_,_,rfl,fun M h hM=>?_⟩;have g1:=hM1 M fun k hk=>h k (by simp [DataW.weights,Tryz.underlying54,DataW.weightsEach,hk]);have g2:=hM2 M fun k hk=>h k (by simp [DataW.weights,Tryz.underlying54,DataW.weightsEach,hk]);exact ⟨b1,a1,m1,b2,a2,m2,l1,l2,rfl,by omega,by omega,⟨a1,m1,rfl,hk1,hc1,hr1⟩,⟨a2,m2,rfl,hk2,hc2,hr2⟩⟩
end
theorem Qy:Tryz.prog.cellsOf 56=9:=by kernel_rfl
theorem Qx:Tryz.prog.cellsOf 58=11:=by kernel_rfl
theorem Xv:Tryz.prog.cellsOf 60=17:=by kernel_rfl
theorem Aas:Tryz.prog.cellsOf 49=1:=by kernel_rfl
theorem Agc:Tryz.prog.cellsOf 5=1:=by kernel_rfl
theorem Ti:Tryz.prog.cellsOf 9=1:=by kernel_rfl
theorem Xw:Tryz.prog.cellsOf 3=1:=by kernel_rfl
theorem Afn {α:Type}{l:List α}(h:l.length=3):∃ c0 c1 c2,l=[c0,c1,c2]:=by
 match l,h with
 | [c0,c1,c2],_=>exact ⟨c0,c1,c2,rfl⟩
theorem Aja {α:Type}{l:List α}(h:l.length=9):∃ c0 c1 c2 c3 c4 c5 c6 c7 c8,l=[c0,c1,c2,c3,c4,c5,c6,c7,c8]:=by
 match l,h with
 | [c0,c1,c2,c3,c4,c5,c6,c7,c8],_=>exact ⟨c0,c1,c2,c3,c4,c5,c6,c7,c8,rfl⟩
theorem Ah2 {α:Type}{l:List α}(h:l.length=11):∃ c0 c1 c2 c3 c4 c5 c6 c7 c8 c9 c10,l=[c0,c1,c2,c3,c4,c5,c6,c7,c8,c9,c10]:=by
 match l,h with
 | [c0,c1,c2,c3,c4,c5,c6,c7,c8,c9,c10],_=>exact ⟨c0,c1,c2,c3,c4,c5,c6,c7,c8,c9,c10,rfl⟩
theorem Ah1 {α:Type}{l:List α}(h:l.length=17):∃ c0 c1 c2 c3 c4 c5 c6 c7 c8 c9 c10 c11 c12 c13 c14 c15 c16,l=[c0,c1,c2,c3,c4,c5,c6,c7,c8,c9,c10,c11,c12,c13,c14,c15,c16]:=by
 match l,h with
 | [c0,c1,c2,c3,c4,c5,c6,c7,c8,c9,c10,c11,c12,c13,c14,c15,c16],_=>exact ⟨c0,c1,c2,c3,c4,c5,c6,c7,c8,c9,c10,c11,c12,c13,c14,c15,c16,rfl⟩
def RawOp (w:World)(v:Value):Prop:=∃ (kd:Int) (pn:ByteArray) (pk:Int) (p1 p2 p3 p4 q1 q2 q3 q4:Value) (co:Int) (nm:ByteArray) (u1 u2 u3 u4:Value),
 v=.agg #[.int .u8 kd,.string pn,.int .u8 pk,p1,p2,p3,p4,q1,q2,q3,q4,.int .i64 co,.string nm,u1,u2,u3,u4]∧pn.size≤140737488355328∧nm.size≤140737488355328∧RawF w (.agg #[p1,p2,p3,p4])∧RawF w (.agg #[q1,q2,q3,q4])∧RawF w (.agg #[u1,u2,u3,u4])
section
variable {H:Type} {enc:TypeId×Value→H} {w:World} {base:Nat} {spare:Nat→Bool} {held:Bool}
theorem Ac1 {fuel:Nat}{cs:List Value}{x:DataW H×List MemPlace}(h:DataW.trod enc Tryz.prog w base spare held fuel 56 cs=some x) :
  ∃ (kd:Int) (p1 p2 p3 p4 q1 q2 q3 q4:Value),cs=[.int .u8 kd,p1,p2,p3,p4,q1,q2,q3,q4]∧∀ M,(∀ k∈x.1.weights Tryz.prog 56,k≤M)→M≤140737488355328→RawF w (.agg #[p1,p2,p3,p4])∧RawF w (.agg #[q1,q2,q3,q4]):=by
 obtain ⟨xs,n,_,rfl,hlen,hxl,hf⟩:=DataW.trod_struct Tryz.underlying56 h;rw [Qy] at hlen;obtain ⟨c0,c1,c2,c3,c4,c5,c6,c7,c8,rfl⟩:=Aja hlen;obtain ⟨y0,y1,y2,rfl⟩:=Afn hxl;have h0:DataW.trod enc Tryz.prog w base spare held n 49 (([c0,c1,c2,c3,c4,c5,c6,c7,c8].drop 0).take (Tryz.prog.cellsOf 49))=some y0:=hf 0 _ rfl;have h1:DataW.trod enc Tryz.prog w base spare held n 54 (([c0,c1,c2,c3,c4,c5,c6,c7,c8].drop 1).take (Tryz.prog.cellsOf 54))=some y1:=hf 1 _ rfl;have h2:DataW.trod enc Tryz.prog w base spare held n 54 (([c0,c1,c2,c3,c4,c5,c6,c7,c8].drop 5).take (Tryz.prog.cellsOf 54))=some y2:=hf 2 _ rfl;rw [Aas] at h0;rw [Kl] at h1 h2;obtain ⟨kd,e0,_,_⟩:=DataW.trod_int Tryz.underlying49 h0;have e0':[c0]=[.int .u8 kd]:=e0;simp only [List.cons.injEq,and_true] at e0';subst e0';obtain ⟨v1,v2,v3,v4,e1,f1⟩:=Jp h1;have e1':[c1,c2,c3,c4]=[v1,v2,v3,v4]:=e1;simp only [List.cons.injEq,and_true] at e1';obtain ⟨rfl,rfl,rfl,rfl⟩:=e1';obtain ⟨v5,v6,v7,v8,e2,f2⟩:=Jp h2;have e2':[c5,c6,c7,c8]=[v5,v6,v7,v8]:=e2;simp only [List.cons.injEq,and_true] at e2';obtain ⟨rfl,rfl,rfl,rfl⟩:=e2';exact ⟨kd,_,_,_,_,_,_,_,_,rfl,fun M h hM=>⟨f1 M (fun k hk=>h k (by simp [DataW.weights,Tryz.underlying56,DataW.weightsEach,hk])) hM,f2 M (fun k hk=>h k (by simp [DataW.weights,Tryz.underlying56,DataW.weightsEach,hk])) hM⟩⟩
theorem Ac0 {fuel:Nat}{cs:List Value}{x:DataW H×List MemPlace}(h:DataW.trod enc Tryz.prog w base spare held fuel 58 cs=some x) :
  ∃ (pn:ByteArray) (kd:Int) (p1 p2 p3 p4 q1 q2 q3 q4:Value) (co:Int),cs=[.string pn,.int .u8 kd,p1,p2,p3,p4,q1,q2,q3,q4,.int .i64 co]∧∀ M,(∀ k∈x.1.weights Tryz.prog 58,k≤M)→M≤140737488355328→pn.size≤M∧RawF w (.agg #[p1,p2,p3,p4])∧RawF w (.agg #[q1,q2,q3,q4]):=by
 obtain ⟨xs,n,_,rfl,hlen,hxl,hf⟩:=DataW.trod_struct Tryz.underlying58 h;rw [Qx] at hlen;obtain ⟨c0,c1,c2,c3,c4,c5,c6,c7,c8,c9,c10,rfl⟩:=Ah2 hlen;obtain ⟨y0,y1,y2,rfl⟩:=Afn hxl;have h0:DataW.trod enc Tryz.prog w base spare held n 9 (([c0,c1,c2,c3,c4,c5,c6,c7,c8,c9,c10].drop 0).take (Tryz.prog.cellsOf 9))=some y0:=hf 0 _ rfl;have h1:DataW.trod enc Tryz.prog w base spare held n 56 (([c0,c1,c2,c3,c4,c5,c6,c7,c8,c9,c10].drop 1).take (Tryz.prog.cellsOf 56))=some y1:=hf 1 _ rfl;have h2:DataW.trod enc Tryz.prog w base spare held n 3 (([c0,c1,c2,c3,c4,c5,c6,c7,c8,c9,c10].drop 10).take (Tryz.prog.cellsOf 3))=some y2:=hf 2 _ rfl;rw [Ti] at h0;rw [Qy] at h1;rw [Xw] at h2;obtain ⟨pn,e0,hy,_⟩:=DataW.trod_string Tryz.underlying9 h0;have e0':[c0]=[.string pn]:=e0;simp only [List.cons.injEq,and_true] at e0';subst e0';obtain ⟨kd,v1,v2,v3,v4,v5,v6,v7,v8,e1,f1⟩:=Ac1 h1;have e1':[c1,c2,c3,c4,c5,c6,c7,c8,c9]=[.int .u8 kd,v1,v2,v3,v4,v5,v6,v7,v8]:=e1;simp only [List.cons.injEq,and_true] at e1';obtain ⟨rfl,rfl,rfl,rfl,rfl,rfl,rfl,rfl,rfl⟩:=e1';obtain ⟨co,e2,_,_⟩:=DataW.trod_int Tryz.underlying3 h2;have e2':[c10]=[.int .i64 co]:=e2;simp only [List.cons.injEq,and_true] at e2';subst e2';exact ⟨pn,kd,_,_,_,_,_,_,_,_,co,rfl,fun M h hM=>⟨h _ (by simp [DataW.weights,Tryz.underlying58,DataW.weightsEach,hy]),f1 M (fun k hk=>h k (by simp [DataW.weights,Tryz.underlying58,DataW.weightsEach,hk])) hM⟩⟩
theorem Ahp {fuel:Nat}{cs:List Value}{x:DataW H×List MemPlace}(h:DataW.trod enc Tryz.prog w base spare held fuel 60 cs=some x)(M:Nat)(hw:∀ k∈x.1.weights Tryz.prog 60,k≤M)(hM:M≤140737488355328):RawOp w (.agg cs.toArray):=by
 obtain ⟨xs,n,_,rfl,hlen,hxl,hf⟩:=DataW.trod_struct Tryz.underlying60 h;rw [Xv] at hlen;obtain ⟨c0,c1,c2,c3,c4,c5,c6,c7,c8,c9,c10,c11,c12,c13,c14,c15,c16,rfl⟩:=Ah1 hlen;obtain ⟨y0,y1,y2,y3,rfl⟩:=Sp hxl;have h0:DataW.trod enc Tryz.prog w base spare held n 5 (([c0,c1,c2,c3,c4,c5,c6,c7,c8,c9,c10,c11,c12,c13,c14,c15,c16].drop 0).take (Tryz.prog.cellsOf 5))=some y0:=hf 0 _ rfl;have h1:DataW.trod enc Tryz.prog w base spare held n 58 (([c0,c1,c2,c3,c4,c5,c6,c7,c8,c9,c10,c11,c12,c13,c14,c15,c16].drop 1).take (Tryz.prog.cellsOf 58))=some y1:=hf 1 _ rfl;have h2:DataW.trod enc Tryz.prog w base spare held n 9 (([c0,c1,c2,c3,c4,c5,c6,c7,c8,c9,c10,c11,c12,c13,c14,c15,c16].drop 12).take (Tryz.prog.cellsOf 9))=some y2:=hf 2 _ rfl;have h3:DataW.trod enc Tryz.prog w base spare held n 54 (([c0,c1,c2,c3,c4,c5,c6,c7,c8,c9,c10,c11,c12,c13,c14,c15,c16].drop 13).take (Tryz.prog.cellsOf 54))=some y3:=hf 3 _ rfl;rw [Agc] at h0;rw [Qx] at h1;rw [Ti] at h2;rw [Kl] at h3;obtain ⟨kd,e0,_,_⟩:=DataW.trod_int Tryz.underlying5 h0;have e0':[c0]=[.int .u8 kd]:=e0;simp only [List.cons.injEq,and_true] at e0';subst e0';obtain ⟨pn,pk,v1,v2,v3,v4,v5,v6,v7,v8,co,e1,f1⟩:=Ac0 h1;have e1':[c1,c2,c3,c4,c5,c6,c7,c8,c9,c10,c11]=[.string pn,.int .u8 pk,v1,v2,v3,v4,v5,v6,v7,v8,.int .i64 co]:=e1;simp only [List.cons.injEq,and_true] at e1';obtain ⟨rfl,rfl,rfl,rfl,rfl,rfl,rfl,rfl,rfl,rfl,rfl⟩:=e1';obtain ⟨nm,e2,hy2,_⟩:=DataW.trod_string Tryz.underlying9 h2;have e2':[c12]=[.string nm]:=e2;simp only [List.cons.injEq,and_true] at e2';subst e2';obtain ⟨u1,u2,u3,u4,e3,f3⟩:=Jp h3;have e3':[c13,c14,c15,c16]=[u1,u2,u3,u4]:=e3;simp only [List.cons.injEq,and_true] at e3';obtain ⟨rfl,rfl,rfl,rfl⟩:=e3';obtain ⟨hs1,g1,g2⟩:=f1 M (fun k hk=>hw k (by simp [DataW.weights,Tryz.underlying60,DataW.weightsEach,hk])) hM
 exact ⟨kd,pn,pk,_,_,_,_,_,_,_,_,co,nm,_,_,_,_,rfl,nT hs1 hM,nT (hw _ (by simp [DataW.weights,Tryz.underlying60,DataW.weightsEach,hy2])) hM,g1,g2,f3 M (fun k hk=>hw k (by simp [DataW.weights,Tryz.underlying60,DataW.weightsEach,hk])) hM⟩
end
def Be (vs:List Value):List Value:=vs.flatMap fun v=>v.cells.toList
theorem Gg (v:Value)(vs:List Value):Be (v::vs)=v.cells.toList++Be vs:=List.flatMap_cons
theorem Jh (a b:List Value):Be (a++b)=Be a++Be b:=List.flatMap_append
def Is11 (vs:List Value):Prop:=∀ v∈vs,∃ (nm:ByteArray) (kd co:Int) (p q:FV),v=.agg #[.string nm,.int .u8 kd,.bool p.b1,.slice p.a1 p.n1 p.c1,.bool p.b2,.slice p.a2 p.n2 p.c2,.bool q.b1,.slice q.a1 q.n1 q.c1,.bool q.b2,.slice q.a2 q.n2 q.c2,.int .i64 co]
theorem Km:∀ {vs:List Value},Is11 vs→(Be vs).length=vs.length*11
 | [],_=>rfl
 | v::r,h=>by
  obtain ⟨nm,kd,co,p,q,e⟩:=h v (List.mem_cons_self ..)
  have ih:=Km (vs:=r) fun y hy=>h y (List.mem_cons_of_mem _ hy)
  rw [Gg,List.length_append,ih,e,List.length_cons]
  show 11+_=_
  omega
theorem Adt {vs:List Value}(h:Is11 vs){i:Nat}(hi:i<vs.length)(j:Nat)(hj:j<11):(Be vs)[i*11+j]? = vs[i].cells[j]?:=by
 have e:vs=vs.take i++vs[i]::vs.drop (i+1):=by rw [←List.drop_eq_getElem_cons hi,List.take_append_drop]
 have h1:(Be (vs.take i)).length=i*11:=by
  rw [Km (fun v hv=>h v (List.mem_of_mem_take hv)),List.length_take];congr 1;omega
 have hc:vs[i].cells.size=11:=by
  obtain ⟨nm,kd,co,p,q,e⟩:=h vs[i] (List.getElem_mem hi);rw [e];rfl
 have hcl:vs[i].cells.toList.length=11:=by simpa using hc
 have e2:Be vs=Be (vs.take i)++(vs[i].cells.toList++Be (vs.drop (i+1))):=by
  rw [←Gg,←Jh,←e]
 rw [e2,List.getElem?_append_right (by omega),h1,List.getElem?_append_left (by omega)];rw [show i*11+j-i*11=j by omega];simp
theorem Hu {H:Type}{P:Program}{e:TypeId}:∀ {l:List (DataW H)} {d:DataW H} {k:Nat},d∈l→k∈d.weights P e→k∈DataW.weightsAll P e l
 | [],_,_,h,_=>by cases h
 | x::r,d,k,h,hk=>by
  rw [DataW.weightsAll]
  rcases List.mem_cons.1 h with rfl|h
  ·exact List.mem_append_left _ hk
  ·exact List.mem_append_right _ (Hu h hk)
section
variable {H:Type} {enc:TypeId×Value→H} {w:World} {base:Nat} {spare:Nat→Bool} {held:Bool}
end
end Go.Proofs.YteogdoglboddhaaGreatDoor
namespace Go.Proofs.YteogdoglboddhaaGreatDoor
set_option maxRecDepth 100000
open Go Go.RowKit Go.Proofs
theorem Bo {P:Program}{S:World→Value→Prop}{o:Oper}{a:Act}{W:World}{X:Prop}{c:Prop}{ic:Decidable c}(hw:c)(ty:TypeId)(x:Operand)(ho:o.op=.load ty x)
  (b k:Nat) (hx:a.eval x=.pointer (some ⟨b,k,none⟩)) (cs:List Value) (d:TypeDesc) (hc:W.rangeAt b k cs)
  (hu:P.underlying ty=some d) (hd:d.isRow=true) (hi:(P.info? ty).map (·.size)=some cs.length)
  (h:S W (.agg cs.toArray)):if c then Bu P S ((execOp a.eval o).run P W) else X:=by
 rw [if_pos hw];unfold execOp;simp only [ho,hx,Instr.loadAt,Instr.sureAddr,Sem.run_bind,Sem.run_pure,Result.andThen_ok,run_loadVar_mid W b k ty cs d hc hu hd hi];exact h
theorem Cw {P:Program}{ops:Array Oper}{rest:List Oper}{o:Oper}{a:Act}{w:World}{Q:Exit→Act→World→Prop}(hw:Region.wanted o (yielded ops a.tmps)=true)(ty:TypeId)(x:Operand)(ho:o.op=.load ty x)
  (b k:Nat) (hx:a.eval x=.pointer (some ⟨b,k,none⟩)) (cs:List Value) (d:TypeDesc) (hc:w.rangeAt b k cs)
  (hu:P.underlying ty=some d) (hd:d.isRow=true) (hi:(P.info? ty).map (·.size)=some cs.length)
  (h:wpList P ops Q rest (a.put o.dst (.agg cs.toArray)) w):wpList P ops Q (o::rest) a w:=by
 simp only [wpList];rw [if_pos hw];exact .inl (wp_load_mid ty x ho b k hx cs d hc hu hd hi h)
theorem Bc {w w':World}{b o:Nat}{cs:List Value}(h:w.rangeAt b o cs)(e:Ext w w'):w'.rangeAt b o cs:=fun j v hv=>e.cell (h j v hv)
theorem Fy {w:World}{b o:Nat}{cs:List Value}(h:w.rangeAt b o cs)(k n:Nat):w.rangeAt b (o+k) ((cs.drop k).take n):=fun j v hv=>by
 have h1:cs[k+j]? = some v:=by
  rw [List.getElem?_take] at hv;split at hv
  ·rwa [List.getElem?_drop] at hv
  ·cases hv
 have:=h (k+j) v h1;rwa [←Nat.add_assoc] at this
theorem Ae1 (p q:FV)(nm:ByteArray)(kd co:Int)(op oq:Option Rat)(w:World)(g M:Nat)(es:List (PD×Value))(h:Cat w g M es)(_h1:AnyF w (.agg #[.bool p.b1,.slice p.a1 p.n1 p.c1,.bool p.b2,.slice p.a2 p.n2 p.c2]) op)(_h2:AnyF w (.agg #[.bool q.b1,.slice q.a1 q.n1 q.c1,.bool q.b2,.slice q.a2 q.n2 q.c2]) oq)(hs:nm.size≤9223372036854775807)(hnm:Co nm.data.toList=false) :
  Calls Tryz.prog 17 #[.pointer (some ⟨g,0,none⟩),.agg #[.string nm,.int .u8 kd,.bool p.b1,.slice p.a1 p.n1 p.c1,.bool p.b2,.slice p.a2 p.n2 p.c2,.bool q.b1,.slice q.a1 q.n1 q.c1,.bool q.b2,.slice q.a2 q.n2 q.c2,.int .i64 co]] w fun e w'=>e=.returned (.int .i64 9)∧Ext w w':=by
 obtain ⟨wb,hwb⟩:=nmE (w.alloc (.cells #[.string nm,.int .u8 kd,.bool p.b1,.slice p.a1 p.n1 p.c1,.bool p.b2,.slice p.a2 p.n2 p.c2,.bool q.b1,.slice q.a1 q.n1 q.c1,.bool q.b2,.slice q.a2 q.n2 q.c2,.int .i64 co] 58));have hE:=aLe1 hwb;have z0:=aL10 hwb;have hC:=mK (fun W (e:Ext wb W)=>h.ext (hE.trans e));have hG:=mK (fun W (e:Ext wb W)=>Dx g M W (h.ext (hE.trans e)).str);have hN:=fun W=>Ld nm W hs;rw [hnm] at hN;replace hN:=mK hN;have c0:=mK (ceX0 z0);replace hE:=mK hE;replace z0:=mK z0;replace hwb:=mK hwb;clear h _h1 _h2 hs hnm;go_enter Tryz.func17,Tryz.ntmps17;have tok:Tok 0:=.mk _
 go_wp2_with (first
  | (replace tok:Tok 1:=nxT 0 tok;go_at_call 30;rw [←hwb.out];refine (hG.out _ (xR _)).mono ?_;rintro e w1 ⟨rfl,rfl⟩;(have y0:=c0.out _ (xR _)))
  | (replace tok:Tok 2:=nxT 1 tok;go_at_call 90;refine (hN.out _).mono ?_;rintro e w2 ⟨rfl,hE2⟩;clear y0;replace hE2:=mK hE2))
 go_ret;exact ⟨rfl,hE.out.trans hE2.out⟩
theorem Ahn (p q:FV)(nm:ByteArray)(kd co:Int)(op oq:Option Rat)(w:World)(g M:Nat)(es:List (PD×Value))(h:Cat w g M es)(h1:AnyF w (.agg #[.bool p.b1,.slice p.a1 p.n1 p.c1,.bool p.b2,.slice p.a2 p.n2 p.c2]) op)(h2:AnyF w (.agg #[.bool q.b1,.slice q.a1 q.n1 q.c1,.bool q.b2,.slice q.a2 q.n2 q.c2]) oq)(hs:nm.size≤9223372036854775807)(hnm:Co nm.data.toList=true)(hmy:mayP kd co op oq=false) :
  Calls Tryz.prog 17 #[.pointer (some ⟨g,0,none⟩),.agg #[.string nm,.int .u8 kd,.bool p.b1,.slice p.a1 p.n1 p.c1,.bool p.b2,.slice p.a2 p.n2 p.c2,.bool q.b1,.slice q.a1 q.n1 q.c1,.bool q.b2,.slice q.a2 q.n2 q.c2,.int .i64 co]] w fun e w'=>e=.returned (.int .i64 1)∧Ext w w':=by
 obtain ⟨wb,hwb⟩:=nmE (w.alloc (.cells #[.string nm,.int .u8 kd,.bool p.b1,.slice p.a1 p.n1 p.c1,.bool p.b2,.slice p.a2 p.n2 p.c2,.bool q.b1,.slice q.a1 q.n1 q.c1,.bool q.b2,.slice q.a2 q.n2 q.c2,.int .i64 co] 58));have hE:=aLe1 hwb;have z0:=aL10 hwb;have hC:=mK (fun W (e:Ext wb W)=>h.ext (hE.trans e));have hG:=mK (fun W (e:Ext wb W)=>Dx g M W (h.ext (hE.trans e)).str);have hN:=fun W=>Ld nm W hs;rw [hnm] at hN;replace hN:=mK hN;have c0:=mK (ceX0 z0);replace hE:=mK hE;replace z0:=mK z0;replace hwb:=mK hwb;have hY:=fun W (e:Ext wb W)=>Abk nm kd co p q op oq W (h1.ext (hE.out.trans e)) (h2.ext (hE.out.trans e));rw [hmy] at hY;replace hY:=mK hY;clear h h1 h2 hs hnm hmy;go_enter Tryz.func17,Tryz.ntmps17;have tok:Tok 0:=.mk _
 go_wp2_with (first
  | (replace tok:Tok 1:=nxT 0 tok;go_at_call 30;rw [←hwb.out];refine (hG.out _ (xR _)).mono ?_;rintro e w1 ⟨rfl,rfl⟩;(have y0:=c0.out _ (xR _)))
  | (replace tok:Tok 2:=nxT 1 tok;go_at_call 90;refine (hN.out _).mono ?_;rintro e w2 ⟨rfl,hE2⟩;clear y0;replace hE2:=mK hE2)
  | (replace tok:Tok 3:=nxT 2 tok;refine wpList_load_row (by rfl) 58 (.tmp 3) rfl w.heap.size rfl 58 #[.string nm,.int .u8 kd,.bool p.b1,.slice p.a1 p.n1 p.c1,.bool p.b2,.slice p.a2 p.n2 p.c2,.bool q.b1,.slice q.a1 q.n1 q.c1,.bool q.b2,.slice q.a2 q.n2 q.c2,.int .i64 co] (0,0) _ (hE2.out.blk z0.out) Tryz.underlying58 rfl (by kernel_rfl) ?_)
  | (replace tok:Tok 4:=nxT 3 tok;go_at_call 91;refine (hY.out _ hE2.out).mono ?_;rintro e w3 ⟨rfl,hx⟩;replace hE2:=mK (hE2.out.trans hx);clear hx))
 go_ret;exact ⟨rfl,hE.out.trans hE2.out⟩
theorem Aco (p q:FV)(nm:ByteArray)(kd co:Int)(op oq:Option Rat)(w:World)(g M:Nat)(es:List (PD×Value))(h:Cat w g M es)(h1:AnyF w (.agg #[.bool p.b1,.slice p.a1 p.n1 p.c1,.bool p.b2,.slice p.a2 p.n2 p.c2]) op)(h2:AnyF w (.agg #[.bool q.b1,.slice q.a1 q.n1 q.c1,.bool q.b2,.slice q.a2 q.n2 q.c2]) oq)(hs:nm.size≤9223372036854775807)(hnm:Co nm.data.toList=true)(hmy:mayP kd co op oq=true)(x:PD×Value)(hf:Ay nm es=some x) :
  Calls Tryz.prog 17 #[.pointer (some ⟨g,0,none⟩),.agg #[.string nm,.int .u8 kd,.bool p.b1,.slice p.a1 p.n1 p.c1,.bool p.b2,.slice p.a2 p.n2 p.c2,.bool q.b1,.slice q.a1 q.n1 q.c1,.bool q.b2,.slice q.a2 q.n2 q.c2,.int .i64 co]] w fun e w'=>e=.returned (.int .i64 10)∧Ext w w':=by
 obtain ⟨dx,vx⟩:=x;have hx:(dx,vx)∈es:=List.mem_of_find?_eq_some hf;obtain ⟨px,qx,e0,-,-⟩:=(h.part _ hx).fv;have e0':vx=.agg #[.string dx.nm,.int .u8 dx.kd,.bool px.b1,.slice px.a1 px.n1 px.c1,.bool px.b2,.slice px.a2 px.n2 px.c2,.bool qx.b1,.slice qx.a1 qx.n1 qx.c1,.bool qx.b2,.slice qx.a2 qx.n2 qx.c2,.int .i64 dx.co]:=e0;subst e0';obtain ⟨wb,hwb⟩:=nmE (w.alloc (.cells #[.string nm,.int .u8 kd,.bool p.b1,.slice p.a1 p.n1 p.c1,.bool p.b2,.slice p.a2 p.n2 p.c2,.bool q.b1,.slice q.a1 q.n1 q.c1,.bool q.b2,.slice q.a2 q.n2 q.c2,.int .i64 co] 58));have hE:=aLe1 hwb;have z0:=aL10 hwb;have hC:=mK (fun W (e:Ext wb W)=>h.ext (hE.trans e));have hG:=mK (fun W (e:Ext wb W)=>Dx g M W (h.ext (hE.trans e)).str);have hN:=fun W=>Ld nm W hs;rw [hnm] at hN;replace hN:=mK hN;have c0:=mK (ceX0 z0);replace hE:=mK hE;replace z0:=mK z0;replace hwb:=mK hwb;have hY:=fun W (e:Ext wb W)=>Abk nm kd co p q op oq W (h1.ext (hE.out.trans e)) (h2.ext (hE.out.trans e));rw [hmy] at hY;replace hY:=mK hY;have cg:Hid (∀ W,Ext wb W→W.cell? ⟨g,0,none⟩=some (.map (some M))):=fun W e=>cell0 (hC.out W e).str
 have hL:∀ W,Ext wb W→(Instr.lookup 70 (.map (some M)) (.string nm) true).run Tryz.prog W=.ok (.tuple #[.agg #[.string dx.nm,.int .u8 dx.kd,.bool px.b1,.slice px.a1 px.n1 px.c1,.bool px.b2,.slice px.a2 px.n2 px.c2,.bool qx.b1,.slice qx.a1 qx.n1 qx.c1,.bool qx.b2,.slice qx.a2 qx.n2 qx.c2,.int .i64 dx.co],.bool true]) W:=fun W e=>by
  have:=(hC.out W e).map.look nm hs;rw [hf] at this;exact this
 replace hL:=mK hL;clear h h1 h2 hs hnm hmy hf hx e0;go_enter Tryz.func17,Tryz.ntmps17;have tok:Tok 0:=.mk _
 go_wp2_with (first
  | (replace tok:Tok 1:=nxT 0 tok;go_at_call 30;rw [←hwb.out];refine (hG.out _ (xR _)).mono ?_;rintro e w1 ⟨rfl,rfl⟩;(have y0:=c0.out _ (xR _)))
  | (replace tok:Tok 2:=nxT 1 tok;go_at_call 90;refine (hN.out _).mono ?_;rintro e w2 ⟨rfl,hE2⟩;clear y0;replace hE2:=mK hE2)
  | (replace tok:Tok 3:=nxT 2 tok;refine wpList_load_row (by rfl) 58 (.tmp 3) rfl w.heap.size rfl 58 #[.string nm,.int .u8 kd,.bool p.b1,.slice p.a1 p.n1 p.c1,.bool p.b2,.slice p.a2 p.n2 p.c2,.bool q.b1,.slice q.a1 q.n1 q.c1,.bool q.b2,.slice q.a2 q.n2 q.c2,.int .i64 co] (0,0) _ (hE2.out.blk z0.out) Tryz.underlying58 rfl (by kernel_rfl) ?_)
  | (replace tok:Tok 4:=nxT 3 tok;go_at_call 91;refine (hY.out _ hE2.out).mono ?_;rintro e w3 ⟨rfl,hx⟩;replace hE2:=mK (hE2.out.trans hx);clear hx))
 clear tok
 apply Late.region_late Ext [.val (.pointer (some ⟨g,0,none⟩)),.val (.pointer (some ⟨g,0,none⟩)),.val (.pointer (some ⟨g,0,none⟩)),.val (.map (some M)),.val (.pointer (some ⟨w.heap.size,0,none⟩)),.val (.string nm),.val (.tuple #[.agg #[.string dx.nm,.int .u8 dx.kd,.bool px.b1,.slice px.a1 px.n1 px.c1,.bool px.b2,.slice px.a2 px.n2 px.c2,.bool qx.b1,.slice qx.a1 qx.n1 qx.c1,.bool qx.b2,.slice qx.a2 qx.n2 qx.c2,.int .i64 dx.co],.bool true]),.val (.tuple #[.agg #[.string dx.nm,.int .u8 dx.kd,.bool px.b1,.slice px.a1 px.n1 px.c1,.bool px.b2,.slice px.a2 px.n2 px.c2,.bool qx.b1,.slice qx.a1 qx.n1 qx.c1,.bool qx.b2,.slice qx.a2 qx.n2 qx.c2,.int .i64 dx.co],.bool true]),.val (.agg #[.string dx.nm,.int .u8 dx.kd,.bool px.b1,.slice px.a1 px.n1 px.c1,.bool px.b2,.slice px.a2 px.n2 px.c2,.bool qx.b1,.slice qx.a1 qx.n1 qx.c1,.bool qx.b2,.slice qx.a2 qx.n2 qx.c2,.int .i64 dx.co]),.val (.bool true),.pred (VarAt wb.heap.size #[.string ⟨#[]⟩,.int .u8 0,.bool false,.slice none 0 0,.bool false,.slice none 0 0,.bool false,.slice none 0 0,.bool false,.slice none 0 0,.int .i64 0] 58)] 9 _ 28 (.bool true) mixed (by kernel_rfl) rfl rfl rfl (by kernel_rfl) (by kernel_rfl) (fun _ _ _ h=>h)
  (fun a W _ hf=>by
   have h7:a.tmps.getD 19 undef=.tuple #[.agg #[.string dx.nm,.int .u8 dx.kd,.bool px.b1,.slice px.a1 px.n1 px.c1,.bool px.b2,.slice px.a2 px.n2 px.c2,.bool qx.b1,.slice qx.a1 qx.n1 qx.c1,.bool qx.b2,.slice qx.a2 qx.n2 qx.c2,.int .i64 dx.co],.bool true]:=hf 7 _ _ _ rfl rfl rfl (by kernel_rfl);refine .inl ⟨rfl,fun w=>?_⟩;simp only [execOp,Act.eval,h7]
   rfl)
  xR (fun _ _ _=>Ext.trans) (fun w=>(xR w).dr) (stableAll_mem (stable_vals _ (stable_vals _ (stable_vals _ (stable_vals _ (stable_vals _ (stable_vals _ (stable_vals _ (stable_vals _ (stable_vals _ (stable_vals _ (Oc _ _ _ trivial))))))))))))
 iterate 3 (refine ⟨fun W hW _=>by go_simp;first|exact ⟨xR _,rfl⟩|exact xR _,?_⟩)
 refine ⟨fun W hW _=>by have:=cg.out W (hE2.out.trans hW);go_simp;first|exact ⟨xR _,rfl⟩|exact xR _,?_⟩;refine ⟨fun W hW _=>by go_simp;first|exact ⟨xR _,rfl⟩|exact xR _,?_⟩;refine ⟨fun W hW _=>by have:=c0.out W (hE2.out.trans hW);go_simp;first|exact ⟨xR _,rfl⟩|exact xR _,?_⟩;refine ⟨fun W hW _=>by have:=hL.out W (hE2.out.trans hW);go_simp;first|exact ⟨xR _,rfl⟩|exact xR _,?_⟩;iterate 3 (refine ⟨fun W hW _=>by go_simp;first|exact ⟨xR _,rfl⟩|exact xR _,?_⟩)
 refine ⟨fun W hW hF=>?al,fun v10=>fun W hW hF=>?fin⟩
 case al=>
  have hnv:=mK (Ga (b:=wb.heap.size) (cs:=#[.string ⟨#[]⟩,.int .u8 0,.bool false,.slice none 0 0,.bool false,.slice none 0 0,.bool false,.slice none 0 0,.bool false,.slice none 0 0,.int .i64 0]) (T:=58) W (hE2.out.trans hW).size);go_simp;exact ⟨hnv.out.1,hnv.out.2.1⟩
 case fin=>
  obtain ⟨gd,rfl,hgb,hgd⟩:=hF.1 rfl;have hE3:Ext wb (W.setRow gd #[.string dx.nm,.int .u8 dx.kd,.bool px.b1,.slice px.a1 px.n1 px.c1,.bool px.b2,.slice px.a2 px.n2 px.c2,.bool qx.b1,.slice qx.a1 qx.n1 qx.c1,.bool qx.b2,.slice qx.a2 qx.n2 qx.c2,.int .i64 dx.co]):=(hE2.out.trans hW).row hgb _;obtain ⟨w4,hw4⟩:=nmE (W.setRow gd #[.string dx.nm,.int .u8 dx.kd,.bool px.b1,.slice px.a1 px.n1 px.c1,.bool px.b2,.slice px.a2 px.n2 px.c2,.bool qx.b1,.slice qx.a1 qx.n1 qx.c1,.bool qx.b2,.slice qx.a2 qx.n2 qx.c2,.int .i64 dx.co]);rw [←hw4] at hE3;replace hE3:=mK hE3;replace hw4:=mK hw4;replace hgd:=mK hgd;clear hF hW hE2;go_simp;go_wp2_with (refine wpList_store_row rfl 58 (.tmp 5) (.tmp 27) rfl gd #[.string dx.nm,.int .u8 dx.kd,.bool px.b1,.slice px.a1 px.n1 px.c1,.bool px.b2,.slice px.a2 px.n2 px.c2,.bool qx.b1,.slice qx.a1 qx.n1 qx.c1,.bool qx.b2,.slice qx.a2 qx.n2 qx.c2,.int .i64 dx.co] rfl rfl 58 _ hgd.out (by kernel_rfl) rfl (by kernel_rfl) ?_;rw [←hw4.out]);go_ret;exact ⟨rfl,hE.out.trans hE3.out⟩
theorem Ae2 (p q:FV)(nm:ByteArray)(kd co:Int)(op oq:Option Rat)(w:World)(g M:Nat)(es:List (PD×Value))(h:Cat w g M es)(h1:AnyF w (.agg #[.bool p.b1,.slice p.a1 p.n1 p.c1,.bool p.b2,.slice p.a2 p.n2 p.c2]) op)(h2:AnyF w (.agg #[.bool q.b1,.slice q.a1 q.n1 q.c1,.bool q.b2,.slice q.a2 q.n2 q.c2]) oq)(hs:nm.size≤9223372036854775807)(hnm:Co nm.data.toList=true)(hmy:mayP kd co op oq=true)(hf:Ay nm es=none)(hl:64≤es.length) :
  Calls Tryz.prog 17 #[.pointer (some ⟨g,0,none⟩),.agg #[.string nm,.int .u8 kd,.bool p.b1,.slice p.a1 p.n1 p.c1,.bool p.b2,.slice p.a2 p.n2 p.c2,.bool q.b1,.slice q.a1 q.n1 q.c1,.bool q.b2,.slice q.a2 q.n2 q.c2,.int .i64 co]] w fun e w'=>e=.returned (.int .i64 12)∧Ext w w':=by
 obtain ⟨wb,hwb⟩:=nmE (w.alloc (.cells #[.string nm,.int .u8 kd,.bool p.b1,.slice p.a1 p.n1 p.c1,.bool p.b2,.slice p.a2 p.n2 p.c2,.bool q.b1,.slice q.a1 q.n1 q.c1,.bool q.b2,.slice q.a2 q.n2 q.c2,.int .i64 co] 58));have hE:=aLe1 hwb;have z0:=aL10 hwb;have hC:=mK (fun W (e:Ext wb W)=>h.ext (hE.trans e));have hG:=mK (fun W (e:Ext wb W)=>Dx g M W (h.ext (hE.trans e)).str);have hN:=fun W=>Ld nm W hs;rw [hnm] at hN;replace hN:=mK hN;have c0:=mK (ceX0 z0);replace hE:=mK hE;replace z0:=mK z0;replace hwb:=mK hwb;have hY:=fun W (e:Ext wb W)=>Abk nm kd co p q op oq W (h1.ext (hE.out.trans e)) (h2.ext (hE.out.trans e));rw [hmy] at hY;replace hY:=mK hY;have cg:Hid (∀ W,Ext wb W→W.cell? ⟨g,0,none⟩=some (.map (some M))):=fun W e=>cell0 (hC.out W e).str
 have hL:∀ W,Ext wb W→(Instr.lookup 70 (.map (some M)) (.string nm) true).run Tryz.prog W=.ok (.tuple #[zeroPart,.bool false]) W:=fun W e=>by
  have:=(hC.out W e).map.look nm hs;rw [hf] at this;exact this
 replace hL:=mK hL;clear h h1 h2 hs hnm hmy hf;go_enter Tryz.func17,Tryz.ntmps17;have tok:Tok 0:=.mk _
 go_wp2_with (first
  | (replace tok:Tok 1:=nxT 0 tok;go_at_call 30;rw [←hwb.out];refine (hG.out _ (xR _)).mono ?_;rintro e w1 ⟨rfl,rfl⟩;(have y0:=c0.out _ (xR _)))
  | (replace tok:Tok 2:=nxT 1 tok;go_at_call 90;refine (hN.out _).mono ?_;rintro e w2 ⟨rfl,hE2⟩;clear y0;replace hE2:=mK hE2)
  | (replace tok:Tok 3:=nxT 2 tok;refine wpList_load_row (by rfl) 58 (.tmp 3) rfl w.heap.size rfl 58 #[.string nm,.int .u8 kd,.bool p.b1,.slice p.a1 p.n1 p.c1,.bool p.b2,.slice p.a2 p.n2 p.c2,.bool q.b1,.slice q.a1 q.n1 q.c1,.bool q.b2,.slice q.a2 q.n2 q.c2,.int .i64 co] (0,0) _ (hE2.out.blk z0.out) Tryz.underlying58 rfl (by kernel_rfl) ?_)
  | (replace tok:Tok 4:=nxT 3 tok;go_at_call 91;refine (hY.out _ hE2.out).mono ?_;rintro e w3 ⟨rfl,hx⟩;replace hE2:=mK (hE2.out.trans hx);clear hx))
 clear tok
 apply Late.region_late Ext [.val (.pointer (some ⟨g,0,none⟩)),.val (.pointer (some ⟨g,0,none⟩)),.val (.pointer (some ⟨g,0,none⟩)),.val (.map (some M)),.val (.pointer (some ⟨w.heap.size,0,none⟩)),.val (.string nm),.val (.tuple #[zeroPart,.bool false]),.val (.tuple #[zeroPart,.bool false]),.val (zeroPart),.val (.bool false),.pred (VarAt wb.heap.size #[.string ⟨#[]⟩,.int .u8 0,.bool false,.slice none 0 0,.bool false,.slice none 0 0,.bool false,.slice none 0 0,.bool false,.slice none 0 0,.int .i64 0] 58)] 9 _ 28 (.bool false) mixed (by kernel_rfl) rfl rfl rfl (by kernel_rfl) (by kernel_rfl) (fun _ _ _ h=>h)
  (fun a W _ hf=>by
   have h7:a.tmps.getD 19 undef=.tuple #[zeroPart,.bool false]:=hf 7 _ _ _ rfl rfl rfl (by kernel_rfl);refine .inl ⟨rfl,fun w=>?_⟩;simp only [execOp,Act.eval,h7]
   rfl)
  xR (fun _ _ _=>Ext.trans) (fun w=>(xR w).dr) (stableAll_mem (stable_vals _ (stable_vals _ (stable_vals _ (stable_vals _ (stable_vals _ (stable_vals _ (stable_vals _ (stable_vals _ (stable_vals _ (stable_vals _ (Oc _ _ _ trivial))))))))))))
 iterate 3 (refine ⟨fun W hW _=>by go_simp;first|exact ⟨xR _,rfl⟩|exact xR _,?_⟩)
 refine ⟨fun W hW _=>by have:=cg.out W (hE2.out.trans hW);go_simp;first|exact ⟨xR _,rfl⟩|exact xR _,?_⟩;refine ⟨fun W hW _=>by go_simp;first|exact ⟨xR _,rfl⟩|exact xR _,?_⟩;refine ⟨fun W hW _=>by have:=c0.out W (hE2.out.trans hW);go_simp;first|exact ⟨xR _,rfl⟩|exact xR _,?_⟩;refine ⟨fun W hW _=>by have:=hL.out W (hE2.out.trans hW);go_simp;first|exact ⟨xR _,rfl⟩|exact xR _,?_⟩;iterate 3 (refine ⟨fun W hW _=>by go_simp;first|exact ⟨xR _,rfl⟩|exact xR _,?_⟩)
 refine ⟨fun W hW hF=>?al,fun v10=>fun W hW hF=>?fin⟩
 case al=>
  have hnv:=mK (Ga (b:=wb.heap.size) (cs:=#[.string ⟨#[]⟩,.int .u8 0,.bool false,.slice none 0 0,.bool false,.slice none 0 0,.bool false,.slice none 0 0,.bool false,.slice none 0 0,.int .i64 0]) (T:=58) W (hE2.out.trans hW).size);go_simp;exact ⟨hnv.out.1,hnv.out.2.1⟩
 case fin=>
  obtain ⟨gd,rfl,hgb,hgd⟩:=hF.1 rfl;have hE3:Ext wb (W.setRow gd #[.string ⟨#[]⟩,.int .u8 0,.bool false,.slice none 0 0,.bool false,.slice none 0 0,.bool false,.slice none 0 0,.bool false,.slice none 0 0,.int .i64 0]):=(hE2.out.trans hW).row hgb _;obtain ⟨w4,hw4⟩:=nmE (W.setRow gd #[.string ⟨#[]⟩,.int .u8 0,.bool false,.slice none 0 0,.bool false,.slice none 0 0,.bool false,.slice none 0 0,.bool false,.slice none 0 0,.int .i64 0]);rw [←hw4] at hE3;replace hE3:=mK hE3;replace hw4:=mK hw4;replace hgd:=mK hgd;have y1:=cg.out w4 hE3.out;have y2:=fun ty=>(hC.out w4 hE3.out).map.len ty;have y3:(64:Int)≤(es.length:Int):=by omega
  clear hl;clear hF hW hE2;go_simp;go_wp2_with (refine wpList_store_row rfl 58 (.tmp 5) (.tmp 27) rfl gd #[.string ⟨#[]⟩,.int .u8 0,.bool false,.slice none 0 0,.bool false,.slice none 0 0,.bool false,.slice none 0 0,.bool false,.slice none 0 0,.int .i64 0] rfl rfl 58 _ hgd.out (by kernel_rfl) rfl (by kernel_rfl) ?_;rw [←hw4.out]);go_ret;exact ⟨rfl,hE.out.trans hE3.out⟩
theorem Qq (r:RD):Co r.nm.data.toList=false∨(Co r.nm.data.toList=true∧mayP r.kd r.co r.op r.oq=false) ∨
  (Co r.nm.data.toList=true∧∃ p q,r.op=some p∧r.oq=some q∧mayP r.kd r.co (some p) (some q)=true∧Nv r=some ⟨r.nm,r.kd,p,q,r.co⟩):=by
 cases h1:Co r.nm.data.toList with
 | false=>exact .inl rfl
 | true=>
  cases h2:mayP r.kd r.co r.op r.oq with
  | false=>exact .inr (.inl ⟨rfl,rfl⟩)
  | true=>
   refine .inr (.inr ⟨rfl,?_⟩)
   have hsome:[r.op,r.oq].all Option.isSome=true:=by
    cases h3:[r.op,r.oq].all Option.isSome with
    | true=>rfl
    | false=>
     unfold mayP at h2;rw [Mk r.kd h3] at h2;simp at h2
   simp only [List.all_cons,List.all_nil,Bool.and_true,Bool.and_eq_true] at hsome;obtain ⟨p,hp⟩:=Option.isSome_iff_exists.1 hsome.1;obtain ⟨q,hq⟩:=Option.isSome_iff_exists.1 hsome.2;rw [hp,hq] at h2;refine ⟨p,q,hp,hq,h2,?_⟩;unfold Nv;rw [hp,hq];simp [h1,h2]
theorem Sw {r:RD}{d:PD}{p q:FV}{w:World}(h1:AnyF w (.agg #[.bool p.b1,.slice p.a1 p.n1 p.c1,.bool p.b2,.slice p.a2 p.n2 p.c2]) r.op)(h2:AnyF w (.agg #[.bool q.b1,.slice q.a1 q.n1 q.c1,.bool q.b2,.slice q.a2 q.n2 q.c2]) r.oq)(hg:Nv r=some d) :
  d.nm=r.nm∧d.kd=r.kd∧d.co=r.co∧okPD d∧FracR w (.agg #[.bool p.b1,.slice p.a1 p.n1 p.c1,.bool p.b2,.slice p.a2 p.n2 p.c2]) d.p∧FracR w (.agg #[.bool q.b1,.slice q.a1 q.n1 q.c1,.bool q.b2,.slice q.a2 q.n2 q.c2]) d.q:=by
 unfold Nv at hg;split at hg
 ·rename_i x y hx hy
  split at hg
  ·rename_i hc
   cases hg;rw [hx] at h1;rw [hy] at h2;obtain ⟨f1,n1⟩:=h1.frac;obtain ⟨f2,n2⟩:=h2.frac;rw [Bool.and_eq_true] at hc;exact ⟨rfl,rfl,rfl,⟨n1,n2,hc.1,hc.2⟩,f1,f2⟩
  ·cases hg
 ·cases hg
theorem Ai7 (r:RD)(p q:FV)(w:World)(g M:Nat)(es:List (PD×Value))(h:Cat w g M es)(h1:AnyF w (.agg #[.bool p.b1,.slice p.a1 p.n1 p.c1,.bool p.b2,.slice p.a2 p.n2 p.c2]) r.op)(h2:AnyF w (.agg #[.bool q.b1,.slice q.a1 q.n1 q.c1,.bool q.b2,.slice q.a2 q.n2 q.c2]) r.oq)(hs:r.nm.size≤9223372036854775807)
  (d:PD) (hg:Nv r=some d) (hf:Ay d.nm es=none) (hl:es.length<64) :
  Calls Tryz.prog 17 #[.pointer (some ⟨g,0,none⟩),.agg #[.string r.nm,.int .u8 r.kd,.bool p.b1,.slice p.a1 p.n1 p.c1,.bool p.b2,.slice p.a2 p.n2 p.c2,.bool q.b1,.slice q.a1 q.n1 q.c1,.bool q.b2,.slice q.a2 q.n2 q.c2,.int .i64 r.co]] w fun e w'=>e=.returned (.int .i64 0)∧∃ v,PartK w.heap.size w' v d∧Cat w' g M (insP (d,v) es)∧Chg w w' (· = M):=by
 obtain ⟨e1,e2,e3,hok,f1,f2⟩:=Sw h1 h2 hg;have:=Ai6 p q d w g M es h f1 f2 hok (by rw [e1];exact hs) hf hl;rw [e1,e2,e3] at this;exact this
theorem IntR.anyR {w:World}{b:Bool}{a:Option Addr}{n c:Nat}{X:Int}(h:IntR w (.agg #[.bool b,.slice a n c]) X):b=decide (X<0)∧n=(lim X.natAbs).length∧AnyR w (.agg #[.bool b,.slice a (lim X.natAbs).length c]) b (lim X.natAbs):=by
 obtain ⟨s,e,a',c',rfl,k1,k2⟩:=h;simp only [Value.agg.injEq,Array.mk.injEq,List.cons.injEq,and_true,Value.bool.injEq,Value.slice.injEq] at e;obtain ⟨rfl,rfl,rfl,rfl⟩:=e;exact ⟨rfl,rfl,_,_,rfl,Ap _,k1,k2⟩
theorem FracR.rawL {w:World}{b1:Bool}{a1:Option Addr}{n1 c1:Nat}{b2:Bool}{a2:Option Addr}{n2 c2:Nat}{q:Rat}(h:FracR w (.agg #[.bool b1,.slice a1 n1 c1,.bool b2,.slice a2 n2 c2]) q)(hq:nf q≤2048) :
  b1=decide (q.num<0)∧n1=(lim q.num.natAbs).length∧b2=decide ((q.den:Int)<0)∧n2=(lim (q.den:Int).natAbs).length∧RawL w b1 a1 (lim q.num.natAbs) c1 b2 a2 (lim (q.den:Int).natAbs) c2:=by
 obtain ⟨b1',a1',n1',c1',b2',a2',n2',c2',e,k1,k2⟩:=h;simp only [Value.agg.injEq,Array.mk.injEq,List.cons.injEq,and_true,Value.bool.injEq,Value.slice.injEq] at e;obtain ⟨rfl,⟨rfl,rfl,rfl⟩,rfl,rfl,rfl,rfl⟩:=e;obtain ⟨e1,e2,r1⟩:=k1.anyR;obtain ⟨e3,e4,r2⟩:=k2.anyR;have m1:(lim q.num.natAbs).length≤2048:=nT (Nat.le_max_left _ _) hq;have m2:(lim (q.den:Int).natAbs).length≤2048:=nT (Nat.le_max_right _ _) hq;exact ⟨e1,e2,e3,e4,nT m1 (by decide),nT m2 (by decide),r1,r2⟩
theorem Jc (v v':Value)(d:PD)(w:World)(h:PartR w v d)(h':PartR w v' d)(hp:nf d.p≤2048)(hq:nf d.q≤2048) :
  Calls Tryz.prog 22 #[v,v'] w fun e w'=>e=.returned (.bool true)∧Ext w w':=by
 obtain ⟨b1,a1,n1,c1,b2,a2,n2,c2,b3,a3,n3,c3,b4,a4,n4,c4,rfl,h1,h2⟩:=h;obtain ⟨b1',a1',n1',c1',b2',a2',n2',c2',b3',a3',n3',c3',b4',a4',n4',c4',rfl,h1',h2'⟩:=h';obtain ⟨rfl,rfl,rfl,rfl,r1⟩:=h1.rawL hp;obtain ⟨rfl,rfl,rfl,rfl,r2⟩:=h2.rawL hq;obtain ⟨rfl,rfl,rfl,rfl,r1'⟩:=h1'.rawL hp;obtain ⟨rfl,rfl,rfl,rfl,r2'⟩:=h2'.rawL hq;refine (Pc d.nm d.nm d.kd d.kd d.co d.co _ a1 _ c1 _ a2 _ c2 _ a3 _ c3 _ a4 _ c4 _ a1' _ c1' _ a2' _ c2' _ a3' _ c3' _ a4' _ c4' w r1 r2 r1' r2').mono ?_;rintro e w' ⟨rfl,hx⟩;refine ⟨?_,hx⟩;simp [Af1]
theorem Xy (os:List (PD×Value)):Af os=Be (os.map (·.2)):=by
 unfold Af Be;rw [List.flatMap_map]
theorem Ek {w:World}{base E n:Nat}{v:Value}{xs:List Value}(h:w.ownsRow base E 11 v n xs):∃ a c,v=.slice a n c∧n≤c∧Row w a xs:=by
 obtain ⟨h1,h2⟩:=h;rcases h2 with ⟨rfl,rfl⟩|⟨g,cap,cur,rfl,a2,a3,a4,a5,a6,a7⟩
 ·have:xs=[]:=List.eq_nil_of_length_eq_zero (by simpa using h1)
  subst this;exact ⟨none,0,rfl,nR _,Hf w⟩
 ·refine ⟨_,_,rfl,a4,g,0,fun _=>rfl,fun j hj=>?_⟩
  have hle:n*11≤cur.size:=by rw [a6];exact Nat.mul_le_mul_right _ a4
  have hj2:j<cur.size:=by omega
  have hj3:j<n*11:=by omega
  have e:xs.getD j undef=cur[j]:=by
   subst a7;simp [List.getD_eq_getElem?_getD,hj3,hj2]
  rw [e];simp [World.cell?,a3,hj2]
structure RowL (w:World) (s:Value) (os:List (PD×Value)):Prop where
 at':∃ a c,s=.slice a os.length c∧os.length≤c∧Row w a (Be (os.map (·.2)))
 part:∀ x∈os,PartR w x.2 x.1
theorem RowL.ext {w w':World}{s:Value}{os:List (PD×Value)}(h:RowL w s os)(e:Ext w w'):RowL w' s os:=by
 obtain ⟨⟨a,c,h1,h2,h3⟩,hp⟩:=h;exact ⟨⟨a,c,h1,h2,h3.ext e⟩,fun x hx=>(hp x hx).ext e⟩
theorem RowL.is {w:World}{s:Value}{os:List (PD×Value)}(h:RowL w s os):Is11 (os.map (·.2)):=fun v hv=>by
 obtain ⟨x,hx,rfl⟩:=List.mem_map.1 hv
 obtain ⟨p,q,e,-,-⟩:=(h.part x hx).fv
 exact ⟨_,_,_,p,q,e⟩
theorem Ky {w:World}{base:Nat}{s:Value}{os:List (PD×Value)}(h:w.ownsRow base 58 11 s os.length (Af os))(hp:∀ x∈os,PartR w x.2 x.1):RowL w s os:=by
 obtain ⟨a,c,h1,h2,h3⟩:=Ek h;rw [Xy] at h3;exact ⟨⟨a,c,h1,h2,h3⟩,hp⟩
theorem OutP.rowL {lo:Nat}{w:World}{s:Value}{os:List (PD×Value)}(h:OutP lo w s os):RowL w s os:=Ky h.row fun x hx=>(h.part x hx).r
theorem Ph {w:World}{a:Option Addr}{vs:List Value}(h:Row w a (Be vs))(his:Is11 vs){k:Nat}(hk:k<vs.length):∃ b o,a=some ⟨b,o,none⟩∧w.rangeAt b (o+k*11) vs[k].cells.toList:=by
 obtain ⟨b,o,ha,hr⟩:=h;have hl:=Km his;have hne:Be vs≠[]:=by intro e;rw [e,List.length_nil] at hl;omega
 refine ⟨b,o,ha hne,fun j v hv=>?_⟩
 have hcl:vs[k].cells.toList.length=11:=by
  obtain ⟨nm,kd,co,p,q,e⟩:=his vs[k] (List.getElem_mem hk);rw [e];rfl
 have hj:j<11:=by have:=(List.getElem?_eq_some_iff.1 hv).1;omega
 have h1:=hr (k*11+j) (by omega);have h2:=Adt his hk j hj;rw [List.getD_eq_getElem?_getD,h2] at h1;have h3:vs[k].cells[j]? = some v:=by simpa using hv
 rw [h3] at h1;rw [Nat.add_assoc];exact h1
theorem RowL.get {w:World}{s:Value}{os:List (PD×Value)}(h:RowL w s os){k:Nat}(hk:k<os.length):∃ b o c,s=.slice (some ⟨b,o,none⟩) os.length c∧os.length≤c∧∃ p q:FV,os[k].2=.agg #[.string os[k].1.nm,.int .u8 os[k].1.kd,.bool p.b1,.slice p.a1 p.n1 p.c1,.bool p.b2,.slice p.a2 p.n2 p.c2,.bool q.b1,.slice q.a1 q.n1 q.c1,.bool q.b2,.slice q.a2 q.n2 q.c2,.int .i64 os[k].1.co]∧w.rangeAt b (o+k*11) [.string os[k].1.nm,.int .u8 os[k].1.kd,.bool p.b1,.slice p.a1 p.n1 p.c1,.bool p.b2,.slice p.a2 p.n2 p.c2,.bool q.b1,.slice q.a1 q.n1 q.c1,.bool q.b2,.slice q.a2 q.n2 q.c2,.int .i64 os[k].1.co]∧PartR w (.agg #[.string os[k].1.nm,.int .u8 os[k].1.kd,.bool p.b1,.slice p.a1 p.n1 p.c1,.bool p.b2,.slice p.a2 p.n2 p.c2,.bool q.b1,.slice q.a1 q.n1 q.c1,.bool q.b2,.slice q.a2 q.n2 q.c2,.int .i64 os[k].1.co]) os[k].1:=by
 obtain ⟨a,c,rfl,hc,hr⟩:=h.at';obtain ⟨b,o,rfl,h2⟩:=Ph hr h.is (k:=k) (by simpa using hk);have hp:=h.part _ (List.getElem_mem hk);obtain ⟨p,q,e,-,-⟩:=hp.fv;rw [e] at hp;refine ⟨b,o,c,rfl,hc,p,q,e,?_,hp⟩;have e2:(os.map (·.2))[k]'(by simpa using hk)=.agg #[.string os[k].1.nm,.int .u8 os[k].1.kd,.bool p.b1,.slice p.a1 p.n1 p.c1,.bool p.b2,.slice p.a2 p.n2 p.c2,.bool q.b1,.slice q.a1 q.n1 q.c1,.bool q.b2,.slice q.a2 q.n2 q.c2,.int .i64 os[k].1.co]:=by simpa using e
 rw [e2] at h2;exact h2
theorem Nn (s s':Value)(os os':List (PD×Value))(w:World)(h:RowL w s os)(h':RowL w s' os')(he:os.map (·.1)=os'.map (·.1))(hn:∀ x∈os,nf x.1.p≤2048∧nf x.1.q≤2048)(hl:os.length≤1099511627776) :
  Calls Tryz.prog 12 #[s,s'] w fun e w'=>e=.returned (.bool true)∧Ext w w':=by
 have hle:os'.length=os.length:=by have:=congrArg List.length he;simpa using this.symm
 obtain ⟨a,c,e1,hc,-⟩:=h.at';obtain ⟨a',c',e1',hc',-⟩:=h'.at';rw [hle] at e1' hc';have H:=mK (fun W (e:Ext w W)=>h.ext e);have H':=mK (fun W (e:Ext w W)=>h'.ext e);have he:=mK he;have hn:=mK hn;replace hle:=mK hle;subst e1;subst e1';clear h h';go_enter Tryz.func12,Tryz.ntmps12;go_wp2_with fail;have st:Hid (∃ k:Nat,k≤os.length∧Value.int .i64 0=.int .i64 k∧Ext w w):=⟨0,Nat.zero_le _,rfl,xR _⟩
 obtain ⟨w0,hw0⟩:=nmE w;rw [←hw0] at H H';have st:Hid (∃ k:Nat,k≤os.length∧Value.int .i64 0=.int .i64 k∧Ext w0 w):=⟨0,Nat.zero_le _,rfl,by rw [hw0];exact xR _⟩
 have hw0:=mK hw0;go_loopw [5] (fun t5 wr=>∃ k:Nat,k≤os.length∧t5=.int .i64 k∧Ext w0 wr) (fun t5 _=>os.length-(intOf t5).toNat)
 case atStart=>exact st.out
 case round=>
  clear st;obtain ⟨k,hk,rfl,hEr⟩:=hrel;obtain ⟨w2,rfl⟩:=nmE (wr:World);by_cases hlt:k<os.length
  ·have hlt':(k:Int)<(os.length:Int):=by omega
   have hlt2:k<os'.length:=by rw [hle.out];exact hlt
   obtain ⟨b,o,c1,x1,-,p,q,-,hr,hp⟩:=(H.out w2 hEr).get hlt;obtain ⟨b',o',c1',x1',-,p',q',-,hr',hp'⟩:=(H'.out w2 hEr).get hlt2;rw [hle.out] at x1';simp only [Value.slice.injEq,true_and] at x1 x1';obtain ⟨rfl,rfl⟩:=x1;obtain ⟨rfl,rfl⟩:=x1'
   have hd:os'[k].1=os[k].1:=by
    have h1:(os'.map (·.1))[k]'(by simpa using hlt2)=(os.map (·.1))[k]'(by simpa using hlt):=by simp only [he.out]
    simpa using h1
   rw [hd] at hr' hp';have hnk:=hn.out _ (List.getElem_mem hlt);generalize os[k].1=d at *;have HR:=mK (fun W (e:Ext w2 W)=>Bc hr e);have HR':=mK (fun W (e:Ext w2 W)=>Bc hr' e);have K:=mK (fun W (e:Ext w2 W)=>Jc _ _ d W (hp.ext e) (hp'.ext e) hnk.1 hnk.2);replace hEr:=mK hEr;clear hr hr' hp hp' hnk hd hlt2;go_wp2_with fail;apply Ad [.val (.slice (some ⟨b,o,none⟩) os.length c),.val (.int .i64 k),.val (.pointer (some ⟨b,o+k*11,none⟩)),.val (.agg #[.string d.nm,.int .u8 d.kd,.bool p.b1,.slice p.a1 p.n1 p.c1,.bool p.b2,.slice p.a2 p.n2 p.c2,.bool q.b1,.slice q.a1 q.n1 q.c1,.bool q.b2,.slice q.a2 q.n2 q.c2,.int .i64 d.co]),.val (.slice (some ⟨b',o',none⟩) os.length c'),.val (.int .i64 k),.val (.pointer (some ⟨b',o'+k*11,none⟩)),.val (.agg #[.string d.nm,.int .u8 d.kd,.bool p'.b1,.slice p'.a1 p'.n1 p'.c1,.bool p'.b2,.slice p'.a2 p'.n2 p'.c2,.bool q'.b1,.slice q'.a1 q'.n1 q'.c1,.bool q'.b2,.slice q'.a2 q'.n2 q'.c2,.int .i64 d.co]),.val (.bool true),.val (.bool false)] (by kernel_rfl) (stable_vals _ (stable_vals _ (stable_vals _ (stable_vals _ (stable_vals _ (stable_vals _ (stable_vals _ (stable_vals _ (stable_vals _ (stable_vals _ trivial))))))))));iterate 3 (refine ⟨fun W hW _=>by go_simp;first|exact ⟨xR _,rfl⟩|exact xR _,?_⟩)
   refine ⟨?l1,?_⟩
   case l1=>
    intro W hW hF;have hr:=HR.out W hW;with_reducible refine Bo ?zhw 58 (.tmp 19) ?zho b (o+k*11) ?zhx [.string d.nm,.int .u8 d.kd,.bool p.b1,.slice p.a1 p.n1 p.c1,.bool p.b2,.slice p.a2 p.n2 p.c2,.bool q.b1,.slice q.a1 q.n1 q.c1,.bool q.b2,.slice q.a2 q.n2 q.c2,.int .i64 d.co] _ hr Tryz.underlying58 ?zhd ?zhi ?zh
    case zhw=>kernel_rfl
    case zho=>rfl
    case zhx=>kernel_rfl
    case zhd=>rfl
    case zhi=>kernel_rfl
    case zh=>exact ⟨xR _,rfl⟩
   iterate 3 (refine ⟨fun W hW _=>by go_simp;first|exact ⟨xR _,rfl⟩|exact xR _,?_⟩)
   refine ⟨?l2,?_⟩
   case l2=>
    intro W hW hF;have hr:=HR'.out W hW;with_reducible refine Bo ?zhw 58 (.tmp 23) ?zho b' (o'+k*11) ?zhx [.string d.nm,.int .u8 d.kd,.bool p'.b1,.slice p'.a1 p'.n1 p'.c1,.bool p'.b2,.slice p'.a2 p'.n2 p'.c2,.bool q'.b1,.slice q'.a1 q'.n1 q'.c1,.bool q'.b2,.slice q'.a2 q'.n2 q'.c2,.int .i64 d.co] _ hr Tryz.underlying58 ?zhd ?zhi ?zh
    case zhw=>kernel_rfl
    case zho=>rfl
    case zhx=>kernel_rfl
    case zhd=>rfl
    case zhi=>kernel_rfl
    case zh=>exact ⟨xR _,rfl⟩
   refine ⟨fun W hW _=>?cl,?_⟩
   case cl=>
    go_simp;refine (K.out W hW).mono ?_;rintro e w' ⟨rfl,h1⟩;exact ⟨rfl,h1⟩
   refine ⟨fun W hW _=>by go_simp;first|exact ⟨xR _,rfl⟩|exact xR _,?_⟩;intro W hW _;clear HR HR' K;replace hEr:=mK (hEr.out.trans hW);clear hW;go_simp;go_wp2_with fail;refine ⟨⟨k+1,by omega,by go_num,hEr.out⟩,by simp [intOf];omega⟩
  ·have hke:k=os.length:=by omega
   subst hke;replace hEr:=mK hEr;go_wp2_with fail;go_ret;exact ⟨rfl,by rw [←hw0.out];exact hEr.out⟩
theorem PartK.row {lo g:Nat}{w:World}{v:Value}{d:PD}(h:PartK lo w v d)(hg:g<lo)(cs:Array Value):PartK lo (w.setRow g cs) v d:=
 h.near fun k hk=>setRow_other _ _ _ _ (by have:=(h.span k hk).1;omega)
theorem Aid (s:ByteArray)(w:World)(g M:Nat)(es:List (PD×Value))(h:Cat w g M es)(hs:s.size≤9223372036854775807)(x:PD×Value)(hf:Ay s es=some x) :
  Calls Tryz.prog 20 #[.pointer (some ⟨g,0,none⟩),.string s] w fun e w'=>e=.returned (.int .i64 0)∧Cat w' g M (es.filter fun p=>!Bb s p)∧Chg w w' (· = M):=by
 obtain ⟨d,v⟩:=x;have hx:(d,v)∈es:=List.mem_of_find?_eq_some hf;obtain ⟨p,q,e0,-,-⟩:=(h.part _ hx).fv;have e0':v=.agg #[.string d.nm,.int .u8 d.kd,.bool p.b1,.slice p.a1 p.n1 p.c1,.bool p.b2,.slice p.a2 p.n2 p.c2,.bool q.b1,.slice q.a1 q.n1 q.c1,.bool q.b2,.slice q.a2 q.n2 q.c2,.int .i64 d.co]:=e0;subst e0';have hL:=h.map.look s hs;rw [hf] at hL;replace hL:(Instr.lookup 70 (.map (some M)) (.string s) true).run Tryz.prog w=.ok (.tuple #[.agg #[.string d.nm,.int .u8 d.kd,.bool p.b1,.slice p.a1 p.n1 p.c1,.bool p.b2,.slice p.a2 p.n2 p.c2,.bool q.b1,.slice q.a1 q.n1 q.c1,.bool q.b2,.slice q.a2 q.n2 q.c2,.int .i64 d.co],.bool true]) w:=hL;have hG:=mK (Dx g M w h.str);have cg:=cell0 h.str;obtain ⟨w1,hw1⟩:=nmE ((w.alloc (.cells #[.string ⟨#[]⟩,.int .u8 0,.bool false,.slice none 0 0,.bool false,.slice none 0 0,.bool false,.slice none 0 0,.bool false,.slice none 0 0,.int .i64 0] 58)).setRow w.heap.size #[.string d.nm,.int .u8 d.kd,.bool p.b1,.slice p.a1 p.n1 p.c1,.bool p.b2,.slice p.a2 p.n2 p.c2,.bool q.b1,.slice q.a1 q.n1 q.c1,.bool q.b2,.slice q.a2 q.n2 q.c2,.int .i64 d.co]);have hE:Ext w w1:=by rw [hw1];exact ((xR w).al _).row (nR _) _
 have cg1:=cell0 (h.ext hE).str;obtain ⟨w6,r1,r2,r3⟩:=(h.ext hE).map.drop s hs 0;have hcat:=mK ((h.ext hE).drop _ r2 r3);have hch:=mK (show Chg w w6 (· = M) from (Chg.of_ext hE _).trans (Cat.turned r3));replace hw1:=mK hw1;replace r1:=mK r1;clear h hf hx r2 r3 hE hs e0;go_enter Tryz.func20,Tryz.ntmps20;have tok:Tok 0:=.mk _
 go_wp2_with (first
  | (replace tok:Tok 1:=nxT 0 tok;go_at_call 30;refine hG.out.mono ?_;rintro e w' ⟨rfl,rfl⟩)
  | (replace tok:Tok 2:=nxT 1 tok;refine wpList_store_row rfl 58 (.tmp 5) (.tmp 16) rfl w.heap.size #[.string d.nm,.int .u8 d.kd,.bool p.b1,.slice p.a1 p.n1 p.c1,.bool p.b2,.slice p.a2 p.n2 p.c2,.bool q.b1,.slice q.a1 q.n1 q.c1,.bool q.b2,.slice q.a2 q.n2 q.c2,.int .i64 d.co] rfl rfl 58 _ (heap_alloc_new _ _) (by kernel_rfl) rfl (by kernel_rfl) ?_;rw [←hw1.out];have r1:=r1.out))
 go_ret;exact ⟨rfl,hcat.out,hch.out⟩
theorem Aie (s:ByteArray)(w:World)(g M:Nat)(es:List (PD×Value))(h:Cat w g M es)(hs:s.size≤9223372036854775807)(hf:Ay s es=none) :
  Calls Tryz.prog 20 #[.pointer (some ⟨g,0,none⟩),.string s] w fun e w'=>e=.returned (.int .i64 11)∧Ext w w':=by
 have hL:=h.map.look s hs;rw [hf] at hL;replace hL:(Instr.lookup 70 (.map (some M)) (.string s) true).run Tryz.prog w=.ok (.tuple #[zeroPart,.bool false]) w:=hL;have hG:=mK (Dx g M w h.str);have cg:=cell0 h.str;obtain ⟨w1,hw1⟩:=nmE ((w.alloc (.cells #[.string ⟨#[]⟩,.int .u8 0,.bool false,.slice none 0 0,.bool false,.slice none 0 0,.bool false,.slice none 0 0,.bool false,.slice none 0 0,.int .i64 0] 58)).setRow w.heap.size #[.string ⟨#[]⟩,.int .u8 0,.bool false,.slice none 0 0,.bool false,.slice none 0 0,.bool false,.slice none 0 0,.bool false,.slice none 0 0,.int .i64 0]);have hE:Ext w w1:=by rw [hw1];exact ((xR w).al _).row (nR _) _
 replace hw1:=mK hw1;replace hE:=mK hE;clear h hf hs;go_enter Tryz.func20,Tryz.ntmps20;have tok:Tok 0:=.mk _
 go_wp2_with (first
  | (replace tok:Tok 1:=nxT 0 tok;go_at_call 30;refine hG.out.mono ?_;rintro e w' ⟨rfl,rfl⟩)
  | (replace tok:Tok 2:=nxT 1 tok;refine wpList_store_row rfl 58 (.tmp 5) (.tmp 16) rfl w.heap.size #[.string ⟨#[]⟩,.int .u8 0,.bool false,.slice none 0 0,.bool false,.slice none 0 0,.bool false,.slice none 0 0,.bool false,.slice none 0 0,.int .i64 0] rfl rfl 58 _ (heap_alloc_new _ _) (by kernel_rfl) rfl (by kernel_rfl) ?_;rw [←hw1.out]))
 go_ret;exact ⟨rfl,hE.out⟩
theorem Ajf (s:ByteArray)(w:World)(g M:Nat)(es:List (PD×Value))(h:Cat w g M es)(hs:s.size≤9223372036854775807)(x:PD×Value)(hf:Ay s es=some x) :
  Calls Tryz.prog 9 #[.pointer (some ⟨g,0,none⟩),.string s] w fun e w'=>∃ v,e=.returned (.tuple #[v,.bool true])∧PartK w.heap.size w' v x.1∧Ext w w':=by
 obtain ⟨d,v⟩:=x;have hx:(d,v)∈es:=List.mem_of_find?_eq_some hf;obtain ⟨p,q,e0,-,-⟩:=(h.part _ hx).fv;have e0':v=.agg #[.string d.nm,.int .u8 d.kd,.bool p.b1,.slice p.a1 p.n1 p.c1,.bool p.b2,.slice p.a2 p.n2 p.c2,.bool q.b1,.slice q.a1 q.n1 q.c1,.bool q.b2,.slice q.a2 q.n2 q.c2,.int .i64 d.co]:=e0;subst e0';obtain ⟨wa,hwa⟩:=nmE (w.alloc (.cells #[.string ⟨#[]⟩,.int .u8 0,.bool false,.slice none 0 0,.bool false,.slice none 0 0,.bool false,.slice none 0 0,.bool false,.slice none 0 0,.int .i64 0] 58));have hEa:=aLe1 hwa;have zR:=mK (aL10 hwa);have hsa:=mK (aLs1 hwa);have hL:=(h.ext hEa).map.look s hs;rw [hf] at hL;replace hL:(Instr.lookup 70 (.map (some M)) (.string s) true).run Tryz.prog wa=.ok (.tuple #[.agg #[.string d.nm,.int .u8 d.kd,.bool p.b1,.slice p.a1 p.n1 p.c1,.bool p.b2,.slice p.a2 p.n2 p.c2,.bool q.b1,.slice q.a1 q.n1 q.c1,.bool q.b2,.slice q.a2 q.n2 q.c2,.int .i64 d.co],.bool true]) wa:=hL;have hG:=mK (Dx g M wa (h.ext hEa).str);have cg:=cell0 (h.ext hEa).str;obtain ⟨w1,hw1⟩:=nmE ((wa.alloc (.cells #[.string ⟨#[]⟩,.int .u8 0,.bool false,.slice none 0 0,.bool false,.slice none 0 0,.bool false,.slice none 0 0,.bool false,.slice none 0 0,.int .i64 0] 58)).setRow wa.heap.size #[.string d.nm,.int .u8 d.kd,.bool p.b1,.slice p.a1 p.n1 p.c1,.bool p.b2,.slice p.a2 p.n2 p.c2,.bool q.b1,.slice q.a1 q.n1 q.c1,.bool q.b2,.slice q.a2 q.n2 q.c2,.int .i64 d.co]);have hE1:Ext wa w1:=by rw [hw1];exact ((xR wa).al _).row (nR _) _
 have z1:w1.heap[wa.heap.size]? = some (.cells #[.string d.nm,.int .u8 d.kd,.bool p.b1,.slice p.a1 p.n1 p.c1,.bool p.b2,.slice p.a2 p.n2 p.c2,.bool q.b1,.slice q.a1 q.n1 q.c1,.bool q.b2,.slice q.a2 q.n2 q.c2,.int .i64 d.co] 58 (0,0)):=by rw [hw1];exact setRow_heap _ _ _ _ _ _ (heap_alloc_new _ _)
 have hK:=mK (Qv (.agg #[.string d.nm,.int .u8 d.kd,.bool p.b1,.slice p.a1 p.n1 p.c1,.bool p.b2,.slice p.a2 p.n2 p.c2,.bool q.b1,.slice q.a1 q.n1 q.c1,.bool q.b2,.slice q.a2 q.n2 q.c2,.int .i64 d.co]) d w1 (nT (h.ok _ hx).1 (by decide)) (nT (h.ok _ hx).2.1 (by decide)) ((h.ext (hEa.trans hE1)).part _ hx));replace hw1:=mK hw1;replace hwa:=mK hwa;replace z1:=mK z1;replace hEa:=mK hEa;replace hE1:=mK hE1;clear h hf hx hs e0;go_enter Tryz.func9,Tryz.ntmps9;have tok:Tok 0:=.mk _
 go_wp2_with (first
  | (replace tok:Tok 1:=nxT 0 tok;go_at_call 30;rw [←hwa.out];refine hG.out.mono ?_;rintro e w' ⟨rfl,rfl⟩)
  | (replace tok:Tok 2:=nxT 1 tok;refine wpList_store_row rfl 58 (.tmp 6) (.tmp 18) rfl wa.heap.size #[.string d.nm,.int .u8 d.kd,.bool p.b1,.slice p.a1 p.n1 p.c1,.bool p.b2,.slice p.a2 p.n2 p.c2,.bool q.b1,.slice q.a1 q.n1 q.c1,.bool q.b2,.slice q.a2 q.n2 q.c2,.int .i64 d.co] rfl rfl 58 _ (heap_alloc_new _ _) (by kernel_rfl) rfl (by kernel_rfl) ?_;rw [←hw1.out])
  | (replace tok:Tok 3:=nxT 2 tok;refine wpList_load_row (by rfl) 58 (.tmp 6) rfl wa.heap.size rfl 58 #[.string d.nm,.int .u8 d.kd,.bool p.b1,.slice p.a1 p.n1 p.c1,.bool p.b2,.slice p.a2 p.n2 p.c2,.bool q.b1,.slice q.a1 q.n1 q.c1,.bool q.b2,.slice q.a2 q.n2 q.c2,.int .i64 d.co] (0,0) _ z1.out Tryz.underlying58 rfl (by kernel_rfl) ?_)
  | (replace tok:Tok 4:=nxT 3 tok;go_at_call 33;refine hK.out.mono ?_;rintro e w2 ⟨v2,rfl,hE2,hv2⟩;(obtain ⟨p',q',rfl,-,-⟩:=hv2.r.fv);(have zR2:=mK (hE2.blk (hE1.out.blk zR.out)));(have hE3:=mK ((hEa.out.trans (hE1.out.trans hE2)).row (show w.heap.size≤w.heap.size from nR _) #[.string d.nm,.int .u8 d.kd,.bool p'.b1,.slice p'.a1 p'.n1 p'.c1,.bool p'.b2,.slice p'.a2 p'.n2 p'.c2,.bool q'.b1,.slice q'.a1 q'.n1 q'.c1,.bool q'.b2,.slice q'.a2 q'.n2 q'.c2,.int .i64 d.co]));(have hv3:=mK ((hv2.row (g:=w.heap.size) (by have:=hE1.out.size;have:=hsa.out;omega) #[.string d.nm,.int .u8 d.kd,.bool p'.b1,.slice p'.a1 p'.n1 p'.c1,.bool p'.b2,.slice p'.a2 p'.n2 p'.c2,.bool q'.b1,.slice q'.a1 q'.n1 q'.c1,.bool q'.b2,.slice q'.a2 q'.n2 q'.c2,.int .i64 d.co]).mono (show w.heap.size≤w1.heap.size by have:=hE1.out.size;have:=hsa.out;omega)));clear hE2 hv2)
  | ((have _t:Tok 4:=tok);clear _t;clear tok;refine wpList_store_row rfl 58 (.tmp 4) (.tmp 24) rfl w.heap.size #[.string d.nm,.int .u8 d.kd,.bool p'.b1,.slice p'.a1 p'.n1 p'.c1,.bool p'.b2,.slice p'.a2 p'.n2 p'.c2,.bool q'.b1,.slice q'.a1 q'.n1 q'.c1,.bool q'.b2,.slice q'.a2 q'.n2 q'.c2,.int .i64 d.co] rfl rfl 58 _ zR2.out (by kernel_rfl) rfl (by kernel_rfl) ?_))
 exact bodyPost_ret (Ae rfl _ _ w.heap.size 58 #[.string d.nm,.int .u8 d.kd,.bool p'.b1,.slice p'.a1 p'.n1 p'.c1,.bool p'.b2,.slice p'.a2 p'.n2 p'.c2,.bool q'.b1,.slice q'.a1 q'.n1 q'.c1,.bool q'.b2,.slice q'.a2 q'.n2 q'.c2,.int .i64 d.co] _ _ rfl rfl (setRow_heap _ _ _ _ _ _ zR2.out) Tryz.underlying58 rfl (by kernel_rfl)) rfl ⟨_,rfl,hv3.out,hE3.out⟩
theorem Ajg (s:ByteArray)(w:World)(g M:Nat)(es:List (PD×Value))(h:Cat w g M es)(hs:s.size≤9223372036854775807)(hf:Ay s es=none) :
  Calls Tryz.prog 9 #[.pointer (some ⟨g,0,none⟩),.string s] w fun e w'=>e=.returned (.tuple #[zeroPart,.bool false])∧Ext w w':=by
 obtain ⟨wa,hwa⟩:=nmE (w.alloc (.cells #[.string ⟨#[]⟩,.int .u8 0,.bool false,.slice none 0 0,.bool false,.slice none 0 0,.bool false,.slice none 0 0,.bool false,.slice none 0 0,.int .i64 0] 58));have hEa:=aLe1 hwa;have zR:=aL10 hwa;have hsa:=mK (aLs1 hwa);have hL:=(h.ext hEa).map.look s hs;rw [hf] at hL;replace hL:(Instr.lookup 70 (.map (some M)) (.string s) true).run Tryz.prog wa=.ok (.tuple #[zeroPart,.bool false]) wa:=hL;have hG:=mK (Dx g M wa (h.ext hEa).str);have cg:=cell0 (h.ext hEa).str;obtain ⟨w1,hw1⟩:=nmE ((wa.alloc (.cells #[.string ⟨#[]⟩,.int .u8 0,.bool false,.slice none 0 0,.bool false,.slice none 0 0,.bool false,.slice none 0 0,.bool false,.slice none 0 0,.int .i64 0] 58)).setRow wa.heap.size #[.string ⟨#[]⟩,.int .u8 0,.bool false,.slice none 0 0,.bool false,.slice none 0 0,.bool false,.slice none 0 0,.bool false,.slice none 0 0,.int .i64 0]);have hE1:Ext wa w1:=by rw [hw1];exact ((xR wa).al _).row (nR _) _
 have zR2:=mK (hE1.blk zR);have hE3:=mK ((hEa.trans hE1).row (show w.heap.size≤w.heap.size from nR _) #[.string ⟨#[]⟩,.int .u8 0,.bool false,.slice none 0 0,.bool false,.slice none 0 0,.bool false,.slice none 0 0,.bool false,.slice none 0 0,.int .i64 0]);replace hw1:=mK hw1;replace hwa:=mK hwa;replace zR:=mK zR;replace hEa:=mK hEa;replace hE1:=mK hE1;clear h hf hs;go_enter Tryz.func9,Tryz.ntmps9;have tok:Tok 0:=.mk _
 go_wp2_with (first
  | (replace tok:Tok 1:=nxT 0 tok;go_at_call 30;rw [←hwa.out];refine hG.out.mono ?_;rintro e w' ⟨rfl,rfl⟩)
  | (replace tok:Tok 2:=nxT 1 tok;refine wpList_store_row rfl 58 (.tmp 6) (.tmp 18) rfl wa.heap.size #[.string ⟨#[]⟩,.int .u8 0,.bool false,.slice none 0 0,.bool false,.slice none 0 0,.bool false,.slice none 0 0,.bool false,.slice none 0 0,.int .i64 0] rfl rfl 58 _ (heap_alloc_new _ _) (by kernel_rfl) rfl (by kernel_rfl) ?_;rw [←hw1.out])
  | (replace tok:Tok 3:=nxT 2 tok;refine wpList_store_row rfl 58 (.tmp 4) (.tmp 22) rfl w.heap.size #[.string ⟨#[]⟩,.int .u8 0,.bool false,.slice none 0 0,.bool false,.slice none 0 0,.bool false,.slice none 0 0,.bool false,.slice none 0 0,.int .i64 0] rfl rfl 58 _ zR2.out (by kernel_rfl) rfl (by kernel_rfl) ?_))
 exact bodyPost_ret (Ae rfl _ _ w.heap.size 58 #[.string ⟨#[]⟩,.int .u8 0,.bool false,.slice none 0 0,.bool false,.slice none 0 0,.bool false,.slice none 0 0,.bool false,.slice none 0 0,.int .i64 0] _ _ rfl rfl (setRow_heap _ _ _ _ _ _ zR2.out) Tryz.underlying58 rfl (by kernel_rfl)) rfl ⟨rfl,hE3.out⟩
theorem Wb (q:Rat):(rabs q).num=(q.num.natAbs:Int)∧(rabs q).den=q.den:=by
 unfold rabs;split
 ·rename_i h
  rw [Rat.neg_num,Rat.neg_den];exact ⟨by omega,rfl⟩
 ·exact ⟨by omega,rfl⟩
theorem Ahl (q:Rat):nf (rabs q)=nf q:=by
 obtain ⟨h1,h2⟩:=Wb q;unfold nf;rw [h1,h2];unfold nl;simp
theorem Acn {w:World}{r:FV}{q:Rat}(h:FracR w (.agg #[.bool r.b1,.slice r.a1 r.n1 r.c1,.bool r.b2,.slice r.a2 r.n2 r.c2]) q):FracR w (.agg #[.bool false,.slice r.a1 r.n1 r.c1,.bool r.b2,.slice r.a2 r.n2 r.c2]) (rabs q):=by
 obtain ⟨h1,h2⟩:=Wb q;obtain ⟨b1,a1,n1,c1,b2,a2,n2,c2,e,k1,k2⟩:=h;simp only [Value.agg.injEq,Array.mk.injEq,List.cons.injEq,and_true,Value.bool.injEq,Value.slice.injEq] at e;obtain ⟨rfl,⟨rfl,rfl,rfl⟩,rfl,rfl,rfl,rfl⟩:=e;refine ⟨_,_,_,_,_,_,_,_,rfl,?_,by rw [h2];exact k2⟩;obtain ⟨s,e,k⟩:=k1;simp only [Value.agg.injEq,Array.mk.injEq,List.cons.injEq,and_true,Value.bool.injEq] at e;obtain ⟨-,rfl⟩:=e;refine ⟨_,?_,by rw [h1,Int.natAbs_natCast];exact k⟩;rw [h1];simp
theorem Air (d:PD)(p q pw:FV)(x:Rat)(gp:Nat)(w:World)(hp:nf d.p≤2048)(hx:nf x≤2048)(h1:FracR w (.agg #[.bool p.b1,.slice p.a1 p.n1 p.c1,.bool p.b2,.slice p.a2 p.n2 p.c2]) d.p)(h2:FracR w (.agg #[.bool pw.b1,.slice pw.a1 pw.n1 pw.c1,.bool pw.b2,.slice pw.a2 pw.n2 pw.c2]) x)(zp:w.heap[gp]? = some (.cells #[.bool pw.b1,.slice pw.a1 pw.n1 pw.c1,.bool pw.b2,.slice pw.a2 pw.n2 pw.c2] 54 (0,0))) :
  Calls Tryz.prog 96 #[.agg #[.string d.nm,.int .u8 d.kd,.bool p.b1,.slice p.a1 p.n1 p.c1,.bool p.b2,.slice p.a2 p.n2 p.c2,.bool q.b1,.slice q.a1 q.n1 q.c1,.bool q.b2,.slice q.a2 q.n2 q.c2,.int .i64 d.co],.pointer (some ⟨gp,0,none⟩)] w fun e w'=>∃ v,e=.returned v∧FracR w' v (offP x d)∧Ext w w':=by
 obtain ⟨w1,hw1⟩:=nmE ((w.alloc (.cells #[.string d.nm,.int .u8 d.kd,.bool p.b1,.slice p.a1 p.n1 p.c1,.bool p.b2,.slice p.a2 p.n2 p.c2,.bool q.b1,.slice q.a1 q.n1 q.c1,.bool q.b2,.slice q.a2 q.n2 q.c2,.int .i64 d.co] 58)).alloc (.cells #[.bool false,.slice none 0 0,.bool false,.slice none 0 0] 54));have hE:=aLe2 hw1;have z0:=mK (aL20 hw1);have zR:=mK (aL21 hw1);have zP:=mK (hE.blk zp);have hsz:=mK (show w1.heap.size=w.heap.size+2 by rw [hw1];simp);have hM:=mK (Ahz (.agg #[.bool p.b1,.slice p.a1 p.n1 p.c1,.bool p.b2,.slice p.a2 p.n2 p.c2]) (.agg #[.bool pw.b1,.slice pw.a1 pw.n1 pw.c1,.bool pw.b2,.slice pw.a2 pw.n2 pw.c2]) d.p x w1 (nT hp (by decide)) (nT hx (by decide)) (h1.ext hE) (h2.ext hE));replace hw1:=mK hw1;replace hE:=mK hE;clear h1 h2 zp hp hx;go_enter Tryz.func96,Tryz.ntmps96;have tok:Tok 0:=.mk _
 go_wp2_with (first
  | (replace tok:Tok 1:=nxT 0 tok;rw [←hw1.out];refine Ab (by rfl) 54 (.tmp 6) rfl w.heap.size 2 ?za 58 _ #[.bool p.b1,.slice p.a1 p.n1 p.c1,.bool p.b2,.slice p.a2 p.n2 p.c2] (0,0) _ z0.out ?zb Tryz.underlying54 rfl (by kernel_rfl) ?_;(case za=>rfl);(case zb=>rfl))
  | (replace tok:Tok 2:=nxT 1 tok;refine wpList_load_row (by rfl) 54 (.tmp 1) rfl gp rfl 54 #[.bool pw.b1,.slice pw.a1 pw.n1 pw.c1,.bool pw.b2,.slice pw.a2 pw.n2 pw.c2] (0,0) _ zP.out Tryz.underlying54 rfl (by kernel_rfl) ?_)
  | (replace tok:Tok 3:=nxT 2 tok;go_at_call 97;refine hM.out.mono ?_;rintro e w2 ⟨v2,rfl,hE2,hv2⟩;(obtain ⟨r,rfl⟩:=hv2.r.fv);(obtain ⟨w3,hw3⟩:=nmE ((w2.alloc (.cells #[.bool false,.slice none 0 0,.bool false,.slice none 0 0] 54)).setRow w2.heap.size #[.bool r.b1,.slice r.a1 r.n1 r.c1,.bool r.b2,.slice r.a2 r.n2 r.c2]));(have hE3:Ext w2 w3:=by rw [hw3];exact ((xR w2).al _).row (nR _) _);(have z3:w3.heap[w2.heap.size]? = some (.cells #[.bool r.b1,.slice r.a1 r.n1 r.c1,.bool r.b2,.slice r.a2 r.n2 r.c2] 54 (0,0)):=by rw [hw3];exact setRow_heap _ _ _ _ _ _ (heap_alloc_new _ _));(have y3:w3.cell? ⟨w2.heap.size,0,none⟩=some (.bool r.b1):=Aa z3 0);(have f3:w3.frozen? ⟨w2.heap.size,0,none⟩=false:=by simp [World.frozen?,z3]);(obtain ⟨w4,hw4⟩:=nmE (w3.setCell ⟨w2.heap.size,0,none⟩ (.bool false)));(have hs4:w4=w3.setRow w2.heap.size #[.bool false,.slice r.a1 r.n1 r.c1,.bool r.b2,.slice r.a2 r.n2 r.c2]:=by rw [hw4,setCell_eq_setRow _ _ _ _ _ _ _ z3];rfl);(have z4:=mK (show w4.heap[w2.heap.size]? = some (.cells #[.bool false,.slice r.a1 r.n1 r.c1,.bool r.b2,.slice r.a2 r.n2 r.c2] 54 (0,0)) by rw [hs4];exact setRow_heap _ _ _ _ _ _ z3));(have hE4:Ext w2 w4:=by rw [hs4];exact hE3.row (nR _) _);(have zR4:=mK (hE4.blk (hE2.blk zR.out)));(have hE5:=mK ((hE.out.trans (hE2.trans hE4)).row (show w.heap.size≤w.heap.size+1 by omega) #[.bool false,.slice r.a1 r.n1 r.c1,.bool r.b2,.slice r.a2 r.n2 r.c2]));(have hv5:=mK (Acn ((hv2.ext hE4).row (g:=w.heap.size+1) (by have:=hsz.out;omega) #[.bool false,.slice r.a1 r.n1 r.c1,.bool r.b2,.slice r.a2 r.n2 r.c2]).r));replace hw3:=mK hw3;replace hw4:=mK hw4;clear hE2 hv2 hE3 z3 hs4 hE4)
  | (replace tok:Tok 4:=nxT 3 tok;refine wpList_store_row rfl 54 (.tmp 4) (.tmp 9) rfl w2.heap.size #[.bool r.b1,.slice r.a1 r.n1 r.c1,.bool r.b2,.slice r.a2 r.n2 r.c2] rfl rfl 54 _ (heap_alloc_new _ _) (by kernel_rfl) rfl (by kernel_rfl) ?_;rw [←hw3.out])
  | (replace tok:Tok 5:=nxT 4 tok;rw [←hw4.out];refine wpList_load_row (by rfl) 54 (.tmp 4) rfl w2.heap.size rfl 54 #[.bool false,.slice r.a1 r.n1 r.c1,.bool r.b2,.slice r.a2 r.n2 r.c2] (0,0) _ z4.out Tryz.underlying54 rfl (by kernel_rfl) ?_)
  | (replace tok:Tok 6:=nxT 5 tok;refine wpList_store_row rfl 54 (.tmp 3) (.tmp 12) rfl (w.heap.size+1) #[.bool false,.slice r.a1 r.n1 r.c1,.bool r.b2,.slice r.a2 r.n2 r.c2] rfl rfl 54 _ zR4.out (by kernel_rfl) rfl (by kernel_rfl) ?_))
 exact bodyPost_ret (results_cell_row rfl _ _ (w.heap.size+1) 54 #[.bool false,.slice r.a1 r.n1 r.c1,.bool r.b2,.slice r.a2 r.n2 r.c2] (0,0) _ rfl (setRow_heap _ _ _ _ _ _ zR4.out) Tryz.underlying54 rfl (by kernel_rfl)) rfl ⟨_,rfl,hv5.out,hE5.out⟩
def Or3R (a b c:Int)(t8:Value):Prop:=t8=.int .i64 0∨(t8=.int .i64 1∧a=0)∨(t8=.int .i64 2∧a=0∧b=0)∨(t8=.int .i64 3∧a=0∧b=0∧c=0)
theorem Ajp (a b c:Int)(g:Nat)(w:World)(h:w.heap[g]? = some (.cells #[.int .i64 a,.int .i64 b,.int .i64 c] 3 (0,0))) :
  Calls Tryz.prog 102 #[.slice (some ⟨g,0,none⟩) 3 3] w fun e w'=>e=.returned (.int .i64 (orI a b c))∧w=w':=by
 have y0:w.cell? ⟨g,0,none⟩=some (.int .i64 a):=Aa h 0;have y1:w.cell? ⟨g,1,none⟩=some (.int .i64 b):=Aa h 1;have y2:w.cell? ⟨g,2,none⟩=some (.int .i64 c):=Aa h 2;clear h;go_enter Tryz.func102,Tryz.ntmps102;go_wp2_with fail;go_loop [8] (fun t8=>Or3R a b c t8) (fun t8=>3-(intOf t8).toNat)
 case atStart=>exact .inl rfl
 case round=>
  rcases hrel with rfl|⟨rfl,ha⟩|⟨rfl,ha,hb⟩|⟨rfl,ha,hb,hc⟩
  ·by_cases h0:a=0
   ·have hb0:(a != 0)=false:=by simp [h0]
    replace h0:=mK h0;go_wp2_with fail;exact ⟨.inr (.inl ⟨by go_num,h0.out⟩),by simp [intOf]⟩
   ·have hb0:(a != 0)=true:=by simp [h0]
    replace h0:=mK h0;go_wp2_with fail;go_ret;exact ⟨by unfold orI;rw [if_pos h0.out];rfl,rfl⟩
  ·by_cases h0:b=0
   ·have hb0:(b != 0)=false:=by simp [h0]
    replace h0:=mK h0;replace ha:=mK ha;go_wp2_with fail;exact ⟨.inr (.inr (.inl ⟨by go_num,ha.out,h0.out⟩)),by simp [intOf]⟩
   ·have hb0:(b != 0)=true:=by simp [h0]
    replace h0:=mK h0;replace ha:=mK ha;go_wp2_with fail;go_ret;exact ⟨by unfold orI;rw [if_neg (by simp [ha.out]),if_pos h0.out];rfl,rfl⟩
  ·by_cases h0:c=0
   ·have hb0:(c != 0)=false:=by simp [h0]
    replace h0:=mK h0;replace ha:=mK ha;replace hb:=mK hb;go_wp2_with fail;exact ⟨.inr (.inr (.inr ⟨by go_num,ha.out,hb.out,h0.out⟩)),by simp [intOf]⟩
   ·have hb0:(c != 0)=true:=by simp [h0]
    replace h0:=mK h0;replace ha:=mK ha;replace hb:=mK hb;go_wp2_with fail;go_ret;exact ⟨by unfold orI;rw [if_neg (by simp [ha.out]),if_neg (by simp [hb.out])];rfl,rfl⟩
  ·replace ha:=mK ha
   replace hb:=mK hb;replace hc:=mK hc;go_wp2_with fail;go_ret;exact ⟨by unfold orI;rw [if_neg (by simp [ha.out]),if_neg (by simp [hb.out]),hc.out];rfl,rfl⟩
def Ints3 (a b c:Int)(W:World)(v:Value):Prop:=∃ g,v=.slice (some ⟨g,0,none⟩) 3 3∧W.heap[g]? = some (.cells #[.int .i64 a,.int .i64 b,.int .i64 c] 3 (0,0))
theorem Ad9 {ss:List FSpec}(a b c:Int)(h:StableAll Ext ss):StableAll Ext (.pred (Ints3 a b c)::ss):=⟨fun _ _ _ e h=>by obtain ⟨g,h1,h2⟩:=h;exact ⟨g,h1,e.blk h2⟩,h⟩
theorem Afc {x:Rat}{d:PD}(hp:nf d.p≤2048)(hx:nf x≤2048):nf (offP x d)≤268435456:=by
 unfold offP;rw [Ahl];have:=Gx d.p x;omega
theorem Ahx (d1 d2:PD)(p1 q1 p2 q2 pw:FV)(x:Rat)(gp go:Nat)(w:World)(hp1:nf d1.p≤2048)(hp2:nf d2.p≤2048)(hx:nf x≤2048)(h1:FracR w (.agg #[.bool p1.b1,.slice p1.a1 p1.n1 p1.c1,.bool p1.b2,.slice p1.a2 p1.n2 p1.c2]) d1.p)(h2:FracR w (.agg #[.bool p2.b1,.slice p2.a1 p2.n1 p2.c1,.bool p2.b2,.slice p2.a2 p2.n2 p2.c2]) d2.p)(h3:FracR w (.agg #[.bool pw.b1,.slice pw.a1 pw.n1 pw.c1,.bool pw.b2,.slice pw.a2 pw.n2 pw.c2]) x)
  (zp:w.heap[gp]? = some (.cells #[.bool pw.b1,.slice pw.a1 pw.n1 pw.c1,.bool pw.b2,.slice pw.a2 pw.n2 pw.c2] 54 (0,0))) (zo:w.heap[go]? = some (.cells #[.func (.func 96) #[] #[.pointer (some ⟨gp,0,none⟩)]] 105 (0,0))) :
  Calls Tryz.prog 101 #[.agg #[.string d1.nm,.int .u8 d1.kd,.bool p1.b1,.slice p1.a1 p1.n1 p1.c1,.bool p1.b2,.slice p1.a2 p1.n2 p1.c2,.bool q1.b1,.slice q1.a1 q1.n1 q1.c1,.bool q1.b2,.slice q1.a2 q1.n2 q1.c2,.int .i64 d1.co],.agg #[.string d2.nm,.int .u8 d2.kd,.bool p2.b1,.slice p2.a1 p2.n1 p2.c1,.bool p2.b2,.slice p2.a2 p2.n2 p2.c2,.bool q2.b1,.slice q2.a1 q2.n1 q2.c1,.bool q2.b2,.slice q2.a2 q2.n2 q2.c2,.int .i64 d2.co],.pointer (some ⟨go,0,none⟩)] w fun e w'=>e=.returned (.int .i64 (cmp3 x d1 d2))∧Ext w w':=by
 obtain ⟨w1,hw1⟩:=nmE ((w.alloc (.cells #[.string d1.nm,.int .u8 d1.kd,.bool p1.b1,.slice p1.a1 p1.n1 p1.c1,.bool p1.b2,.slice p1.a2 p1.n2 p1.c2,.bool q1.b1,.slice q1.a1 q1.n1 q1.c1,.bool q1.b2,.slice q1.a2 q1.n2 q1.c2,.int .i64 d1.co] 58)).alloc (.cells #[.string d2.nm,.int .u8 d2.kd,.bool p2.b1,.slice p2.a1 p2.n1 p2.c1,.bool p2.b2,.slice p2.a2 p2.n2 p2.c2,.bool q2.b1,.slice q2.a1 q2.n1 q2.c1,.bool q2.b2,.slice q2.a2 q2.n2 q2.c2,.int .i64 d2.co] 58));have hE:=aLe2 hw1;have z1:=mK (aL20 hw1);have z2:=mK (aL21 hw1);have zF:=mK (hE.blk zo);have O1:=mK (fun W (e:Ext w W)=>Air d1 p1 q1 pw x gp W hp1 hx (h1.ext e) (h3.ext e) (e.blk zp));have O2:=mK (fun W (e:Ext w W)=>Air d2 p2 q2 pw x gp W hp2 hx (h2.ext e) (h3.ext e) (e.blk zp));have C:=mK (fun v1 v2 W (a:FracR W v1 (offP x d1)) (b:FracR W v2 (offP x d2))=>Aju v1 v2 _ _ W (Afc hp1 hx) (Afc hp2 hx) a b);replace hw1:=mK hw1;replace hE:=mK hE;clear h1 h2 h3 zp zo hp1 hp2 hx;go_enter Tryz.func101,Tryz.ntmps101;go_wp2_with fail;rw [←hw1.out];apply Ad [.val (.func (.func 96) #[] #[.pointer (some ⟨gp,0,none⟩)]),.val (.agg #[.string d1.nm,.int .u8 d1.kd,.bool p1.b1,.slice p1.a1 p1.n1 p1.c1,.bool p1.b2,.slice p1.a2 p1.n2 p1.c2,.bool q1.b1,.slice q1.a1 q1.n1 q1.c1,.bool q1.b2,.slice q1.a2 q1.n2 q1.c2,.int .i64 d1.co]),.pred (fun W v=>FracR W v (offP x d1)),.val (.func (.func 96) #[] #[.pointer (some ⟨gp,0,none⟩)]),.val (.agg #[.string d2.nm,.int .u8 d2.kd,.bool p2.b1,.slice p2.a1 p2.n1 p2.c1,.bool p2.b2,.slice p2.a2 p2.n2 p2.c2,.bool q2.b1,.slice q2.a1 q2.n1 q2.c1,.bool q2.b2,.slice q2.a2 q2.n2 q2.c2,.int .i64 d2.co]),.pred (fun W v=>FracR W v (offP x d2)),.val (.int .i64 (cS (offP x d1) (offP x d2))),.val (.pointer (some ⟨w.heap.size,10,none⟩)),.val (.int .i64 d1.co),.val (.pointer (some ⟨w.heap.size+1,10,none⟩)),.val (.int .i64 d2.co),.val (.int .i64 (cmpI d1.co d2.co)),.val (.pointer (some ⟨w.heap.size,0,none⟩)),.val (.string d1.nm),.val (.pointer (some ⟨w.heap.size+1,0,none⟩)),.val (.string d2.nm),.val (.int .i64 (Lib.compareBytes d1.nm.data.toList d2.nm.data.toList)),.pred (Ints3 (cS (offP x d1) (offP x d2)) (cmpI d1.co d2.co) (Lib.compareBytes d1.nm.data.toList d2.nm.data.toList)),.val (.int .i64 (cmp3 x d1 d2))] (by kernel_rfl) (stable_vals _ (stable_vals _ (Fo _ (stable_vals _ (stable_vals _ (Fo _ (stable_vals _ (stable_vals _ (stable_vals _ (stable_vals _ (stable_vals _ (stable_vals _ (stable_vals _ (stable_vals _ (stable_vals _ (stable_vals _ (stable_vals _ (Ad9 _ _ _ (stable_vals _ (trivial))))))))))))))))))))
 refine ⟨fun W hW _=>by have:=cell0 (hW.blk zF.out);go_simp;first|exact ⟨xR _,rfl⟩|exact xR _,?_⟩;refine ⟨?l1,?_⟩
 case l1=>
  intro W hW hF;have hr:=hW.blk z1.out;with_reducible refine De ?zhw 58 (.tmp 3) ?zho (w.heap.size) ?zhx 58 _ (0,0) _ hr Tryz.underlying58 ?zhd ?zhi ?zh
  case zhw=>kernel_rfl
  case zho=>rfl
  case zhx=>kernel_rfl
  case zhd=>rfl
  case zhi=>kernel_rfl
  case zh=>exact ⟨xR _,rfl⟩
 refine ⟨fun W hW hF=>?o1,fun v2=>?_⟩
 case o1=>
  clear hF;go_simp;refine (O1.out W (hE.out.trans hW)).mono ?_;rintro e w' ⟨v,rfl,h1,h2⟩;exact ⟨v,rfl,h2,h1⟩
 refine ⟨fun W hW _=>by have:=cell0 (hW.blk zF.out);go_simp;first|exact ⟨xR _,rfl⟩|exact xR _,?_⟩;refine ⟨?l2,?_⟩
 case l2=>
  intro W hW hF;have hr:=hW.blk z2.out;with_reducible refine De ?zhw 58 (.tmp 4) ?zho (w.heap.size+1) ?zhx 58 _ (0,0) _ hr Tryz.underlying58 ?zhd ?zhi ?zh
  case zhw=>kernel_rfl
  case zho=>rfl
  case zhx=>kernel_rfl
  case zhd=>rfl
  case zhi=>kernel_rfl
  case zh=>exact ⟨xR _,rfl⟩
 refine ⟨fun W hW hF=>?o2,fun v5=>?_⟩
 case o2=>
  clear hF;go_simp;refine (O2.out W (hE.out.trans hW)).mono ?_;rintro e w' ⟨v,rfl,h1,h2⟩;exact ⟨v,rfl,h2,h1⟩
 refine ⟨fun W hW hF=>?cm,?_⟩
 case cm=>
  have a2:Hid (FracR W v5 (offP x d2)):=hF.1 (by kernel_rfl);have a1:Hid (FracR W v2 (offP x d1)):=hF.2.1 (by kernel_rfl);clear hF;go_simp;refine (C.out v2 v5 W a1.out a2.out).mono ?_;rintro e w' ⟨rfl,h1⟩;exact ⟨rfl,h1⟩
 refine ⟨fun W hW _=>by go_simp;first|exact ⟨xR _,rfl⟩|exact xR _,?_⟩;refine ⟨fun W hW _=>by have:=Aa (hW.blk z1.out) 10;go_simp;first|exact ⟨xR _,rfl⟩|exact xR _,?_⟩;refine ⟨fun W hW _=>by go_simp;first|exact ⟨xR _,rfl⟩|exact xR _,?_⟩;refine ⟨fun W hW _=>by have:=Aa (hW.blk z2.out) 10;go_simp;first|exact ⟨xR _,rfl⟩|exact xR _,?_⟩;refine ⟨fun W hW hF=>?cc,?_⟩
 case cc=>
  clear hF;go_simp;refine (Tryz.cmp_Compare_int d1.co d2.co W).mono ?_;rintro e w' ⟨rfl,rfl⟩;exact ⟨rfl,xR _⟩
 refine ⟨fun W hW _=>by go_simp;first|exact ⟨xR _,rfl⟩|exact xR _,?_⟩;refine ⟨fun W hW _=>by have:=Aa (hW.blk z1.out) 0;go_simp;first|exact ⟨xR _,rfl⟩|exact xR _,?_⟩;refine ⟨fun W hW _=>by go_simp;first|exact ⟨xR _,rfl⟩|exact xR _,?_⟩;refine ⟨fun W hW _=>by have:=Aa (hW.blk z2.out) 0;go_simp;first|exact ⟨xR _,rfl⟩|exact xR _,?_⟩;refine ⟨fun W hW hF=>?cs,?_⟩
 case cs=>
  clear hF;go_simp;refine (Tryz.strings_Compare d1.nm d2.nm W).mono ?_;rintro e w' ⟨rfl,rfl⟩;exact ⟨rfl,xR _⟩
 refine ⟨fun W hW hF=>?bs,fun v17=>?_⟩
 case bs=>
  clear hF;go_simp;exact ⟨(xR _).al _,_,rfl,heap_alloc_new _ _⟩
 refine ⟨fun W hW hF=>?ov,fun W hW hF=>?fin⟩
 case ov=>
  obtain ⟨g3,rfl,h3⟩:=hF.1 (by kernel_rfl);clear hF;replace h3:=mK h3;go_simp;refine (Ajp _ _ _ g3 W h3.out).mono ?_;rintro e w' ⟨rfl,rfl⟩;exact ⟨rfl,xR _⟩
 case fin=>
  clear hF;have FE:=mK (hE.out.trans hW);clear hW;go_simp;go_wp2_with fail;go_ret;exact ⟨rfl,FE.out⟩
end Go.Proofs.YteogdoglboddhaaGreatDoor
