/-
  A region's load of a whole row, by the row's law: no program. (The walk's own load of 16 cells costs the kernel 14 s and 2 GB.) law25: asked, of a catalogue that is gone: printed by tools/gen_asked.py. bench.may, bench.Check of one element, catalog.may: printed by tools/gen_may.py. The catalogue's map: parts by names, read as a list. Names: what is one; catalog.named. The catalogue in memory: its struct, its map, its parts; where they lie. bench.Check at any list of elements. What comes in, opened: lists of elements, of fractions, of numbers, of parts; a proof. What comes in, opened: a proof as data: printed by tools/gen_openpf.py. Plain law of exact.Read: a text's number, nine digits at a time, by limbs. Decimal digits by parts of nine: no program. The digits of a number out of its parts: no program. Plain law of the reference's Digits: nine digits of each part, the low ones first, then zeros. Parts that are handed back: a list of one's own, each part in rows of its own. Names in their order. The lens whose power is nearest, as a plain matter: the program's way (the first least of those that are lenses) and the reference's (one look along the list) are one. strings.Builder at this dump: copyCheck, WriteString, WriteByte (after the shelf's own proofs, whose texts do not fit this dump's copyCheck: its panic bears another word). exact.Digits: the text of a whole number. ratio.Digits: the text of a fraction. A strings.Builder whose buffer lies above a bound, its struct below; a kind's word; a part's line.
-/
import Derived.Test.YtlknpnommcohkaaGreatDoorKAE
import Derived.Test.YtlknpnommcohkaaGreatDoorKAA
import Derived.Test.YtlknpnommcohkaaGreatDoorKAC
import Derived.Test.YtlknpnommcohkaaGreatDoorKAB
import Derived.Test.YtlknpnommcohkaaGreatDoorKAD
import Derived.LoopN
import Derived.Laws.AppendOwnNone
import Derived.Test.YtlknpnommcohkaaGreatDoorProg
import Derived.Maps.OwnSet
import Derived.Maps.Ext
import Derived.Deep.LoopGhost
import Derived.Shelf.Strings.SlTrimAscii
import Derived.Lib.Atoi
import Derived.Lib.SlTrimSet
import Derived.Lib.ItoaNum
import Derived.Maps.AppendAt
import Derived.Sort.KeysCollected
import Derived.Lib.Bytealg
import Derived.Shelf.Strings.Builder1
set_option maxHeartbeats 6400000
namespace Go.Proofs.YtlknpnommcohkaaGreatDoor
set_option maxRecDepth 100000
open Go Go.RowKit Go.Proofs
theorem Ad8 {P:Program}{S:World→Value→Prop}{o:Oper}{a:Act}{W:World}{X:Prop}{c:Prop}{ic:Decidable c}(hw:c)(ty:TypeId)(x:Operand)(ho:o.op=.load ty x)
  (g:Nat) (hx:a.eval x=.pointer (some ⟨g,0,none⟩)) (t:TypeId) (cs:Array Value) (fr:Nat×Nat) (d:TypeDesc) (hg:W.heap[g]? = some (.cells cs t fr))
  (hu:P.underlying ty=some d) (hd:(match d with | .struct _ | .array _ _=>true|_=>false)=true) (hi:(P.info? ty).map (·.size)=some cs.size)
  (h:S W (.agg cs)):if c then Da P S ((execOp a.eval o).run P W) else X:=by
 rw [if_pos hw];unfold execOp;simp only [ho,hx,Instr.loadAt,Instr.sureAddr,Sem.run_bind,Sem.run_pure,Result.andThen_ok,run_loadVar_row W g t ty cs fr d hg hu hd hi];exact h
inductive Tok:Nat→Prop
 | mk (n:Nat):Tok n
theorem nxT (a:Nat){b:Nat}(_h:Tok a):Tok b:=.mk _
def mayS (kd sp sq:Int):Bool:=
 if kd=1 then decide (0≤sp)&&(sq==0) else if kd=2 then sq==0 else if kd=3 then decide (0≤sp)&&decide (0<sq) else if kd=4 then true else if kd=5 then (sp==0)&&(sq==0) else false
def mayO (kd:Int):Option Rat→Option Rat→Bool
 | some p,some q=>mayS kd p.num.sign q.num.sign
 | _,_=>false
theorem Yq (kd:Int){op oq:Option Rat}(h:[op,oq].all Option.isSome=false):mayO kd op oq=false:=by
 cases op<;>cases oq<;>first|rfl|(simp at h)
theorem Vg (kd:Int)(b1:Bool)(a1:Option Addr)(n1 c1:Nat)(b2:Bool)(a2:Option Addr)(n2 c2:Nat)(b3:Bool)(a3:Option Addr)(n3 c3:Nat)(b4:Bool)(a4:Option Addr)(n4 c4:Nat)(op oq:Option Rat)(w:World)(h1:AnyF w (.agg #[.bool b1,.slice a1 n1 c1,.bool b2,.slice a2 n2 c2]) op)(h2:AnyF w (.agg #[.bool b3,.slice a3 n3 c3,.bool b4,.slice a4 n4 c4]) oq) :
  Calls Tryz.prog 113 #[.agg #[.int .u8 kd,.bool b1,.slice a1 n1 c1,.bool b2,.slice a2 n2 c2,.bool b3,.slice a3 n3 c3,.bool b4,.slice a4 n4 c4]] w fun e w'=>e=.returned (.bool (mayO kd op oq))∧Ext w w':=by
 obtain ⟨wb,hwb⟩:=nmE (w.alloc (.cells #[.int .u8 kd,.bool b1,.slice a1 n1 c1,.bool b2,.slice a2 n2 c2,.bool b3,.slice a3 n3 c3,.bool b4,.slice a4 n4 c4] 72));have hE:=aLe1 hwb;have z0:=aL10 hwb;have hsz:=aLs1 hwb;obtain ⟨w2,hw2⟩:=nmE (wb.alloc (.cells #[.bool b1,.slice a1 n1 c1,.bool b2,.slice a2 n2 c2,.bool b3,.slice a3 n3 c3,.bool b4,.slice a4 n4 c4] 28));have hE2:=aLe1 hw2;have zS:w2.heap[w.heap.size+1]? = some (.cells #[.bool b1,.slice a1 n1 c1,.bool b2,.slice a2 n2 c2,.bool b3,.slice a3 n3 c3,.bool b4,.slice a4 n4 c4] 28 (0,0)):=by rw [hw2,←hsz];exact heap_alloc_new _ _
 have H1:=mK (fun W (e:Ext w W)=>h1.ext e);have H2:=mK (fun W (e:Ext w W)=>h2.ext e);have HC:=Hj (w.heap.size+1) 2 [op,oq] w2 (by simp) (Ui zS (h1.ext (hE.trans hE2)) (h2.ext (hE.trans hE2)));have z02:=mK (hE2.blk z0);replace z0:=mK z0;replace hE:=mK (hE.trans hE2);replace hwb:=mK hwb;replace hw2:=mK hw2;replace hsz:=mK hsz;clear hE2 zS;cases hb:[op,oq].all Option.isSome with
 | false=>
  rw [hb] at HC;rw [Yq kd hb];replace HC:=mK HC;clear hb h1 h2 H1 H2;go_enter Tryz.func113,Tryz.ntmps113;have tok:Tok 0:=.mk _
  go_wp2_with (first
   | (replace tok:Tok 1:=nxT 0 tok;rw [←hwb.out];refine Ap (by rfl) 28 (.tmp 5) rfl (w.heap.size) 1 rfl 72 #[.int .u8 kd,.bool b1,.slice a1 n1 c1,.bool b2,.slice a2 n2 c2,.bool b3,.slice a3 n3 c3,.bool b4,.slice a4 n4 c4] #[.bool b1,.slice a1 n1 c1,.bool b2,.slice a2 n2 c2] (0,0) _ z0.out rfl Tryz.underlying28 rfl (by kernel_rfl) ?_)
   | (replace tok:Tok 2:=nxT 1 tok;refine Ap (by rfl) 28 (.tmp 7) rfl (w.heap.size) 5 rfl 72 #[.int .u8 kd,.bool b1,.slice a1 n1 c1,.bool b2,.slice a2 n2 c2,.bool b3,.slice a3 n3 c3,.bool b4,.slice a4 n4 c4] #[.bool b3,.slice a3 n3 c3,.bool b4,.slice a4 n4 c4] (0,0) _ z0.out rfl Tryz.underlying28 rfl (by kernel_rfl) ?_)
   | (replace tok:Tok 3:=nxT 2 tok;go_at_call 71;rw [←hw2.out,hsz.out];refine HC.out.mono ?_;rintro e w3 ⟨rfl,hx⟩;replace hE:=mK (hE.out.trans hx);replace z0:=mK (hx.blk z02.out);clear hx z02))
  go_ret;exact ⟨rfl,hE.out⟩
 | true=>
  obtain ⟨p,rfl⟩:∃ p,op=some p:=by cases op with
   | none=>simp at hb
   | some p=>exact ⟨p,rfl⟩
  obtain ⟨q,rfl⟩:∃ q,oq=some q:=by cases oq with
   | none=>simp at hb
   | some q=>exact ⟨q,rfl⟩
  rw [hb] at HC;replace HC:=mK HC;obtain ⟨f1,k1⟩:=h1.frac;obtain ⟨f2,k2⟩:=h2.frac;have S1:=mK (fun W (e:Ext w W)=>Jt _ p W (nT k1 (by decide)) (f1.ext e));have S2:=mK (fun W (e:Ext w W)=>Jt _ q W (nT k2 (by decide)) (f2.ext e));rw [show mayO kd (some p) (some q)=mayS kd p.num.sign q.num.sign from rfl];generalize p.num.sign=sp at *;generalize q.num.sign=sq at *;clear hb h1 h2 H1 H2 f1 f2 k1 k2;go_enter Tryz.func113,Tryz.ntmps113;have tok:Tok 4:=.mk _
  go_wp2_with (first
   | (replace tok:Tok 5:=nxT 4 tok;rw [←hwb.out];refine Ap (by rfl) 28 (.tmp 5) rfl (w.heap.size) 1 rfl 72 #[.int .u8 kd,.bool b1,.slice a1 n1 c1,.bool b2,.slice a2 n2 c2,.bool b3,.slice a3 n3 c3,.bool b4,.slice a4 n4 c4] #[.bool b1,.slice a1 n1 c1,.bool b2,.slice a2 n2 c2] (0,0) _ z0.out rfl Tryz.underlying28 rfl (by kernel_rfl) ?_)
   | (replace tok:Tok 6:=nxT 5 tok;refine Ap (by rfl) 28 (.tmp 7) rfl (w.heap.size) 5 rfl 72 #[.int .u8 kd,.bool b1,.slice a1 n1 c1,.bool b2,.slice a2 n2 c2,.bool b3,.slice a3 n3 c3,.bool b4,.slice a4 n4 c4] #[.bool b3,.slice a3 n3 c3,.bool b4,.slice a4 n4 c4] (0,0) _ z0.out rfl Tryz.underlying28 rfl (by kernel_rfl) ?_)
   | (replace tok:Tok 7:=nxT 6 tok;go_at_call 71;rw [←hw2.out,hsz.out];refine HC.out.mono ?_;rintro e w3 ⟨rfl,hx⟩;replace hE:=mK (hE.out.trans hx);replace z0:=mK (hx.blk z02.out);clear hx z02))
  apply Ak [.val (.pointer (some ⟨w.heap.size,1,none⟩)),.val (.agg #[.bool b1,.slice a1 n1 c1,.bool b2,.slice a2 n2 c2]),.val (.int .i64 sp),.val (.pointer (some ⟨w.heap.size,5,none⟩)),.val (.agg #[.bool b3,.slice a3 n3 c3,.bool b4,.slice a4 n4 c4]),.val (.int .i64 sq)] (by kernel_rfl) (stable_vals _ (stable_vals _ (stable_vals _ (stable_vals _ (stable_vals _ (stable_vals _ trivial))))));refine ⟨fun W hW _=>by go_simp;first|exact ⟨xR _,rfl⟩|exact xR _,?_⟩;refine ⟨?l1,?_⟩
  case l1=>
   intro W hW hF;have hr:=hW.blk z0.out;with_reducible refine Ah ?zhw 28 (.tmp 12) ?zho w.heap.size 1 ?zhx 72 _ #[.bool b1,.slice a1 n1 c1,.bool b2,.slice a2 n2 c2] (0,0) _ hr ?zhs Tryz.underlying28 ?zhd ?zhi ?zh
   case zhw=>kernel_rfl
   case zho=>rfl
   case zhx=>kernel_rfl
   case zhs=>rfl
   case zhd=>rfl
   case zhi=>kernel_rfl
   case zh=>exact ⟨xR _,rfl⟩
  refine ⟨fun W hW _=>?s1,?_⟩
  case s1=>
   go_simp;refine (S1.out W (hE.out.trans hW)).mono ?_;rintro e w' ⟨rfl,hx⟩;exact ⟨rfl,hx⟩
  refine ⟨fun W hW _=>by go_simp;first|exact ⟨xR _,rfl⟩|exact xR _,?_⟩;refine ⟨?l2,?_⟩
  case l2=>
   intro W hW hF;have hr:=hW.blk z0.out;with_reducible refine Ah ?zhw 28 (.tmp 15) ?zho w.heap.size 5 ?zhx 72 _ #[.bool b3,.slice a3 n3 c3,.bool b4,.slice a4 n4 c4] (0,0) _ hr ?zhs Tryz.underlying28 ?zhd ?zhi ?zh
   case zhw=>kernel_rfl
   case zho=>rfl
   case zhx=>kernel_rfl
   case zhs=>rfl
   case zhd=>rfl
   case zhi=>kernel_rfl
   case zh=>exact ⟨xR _,rfl⟩
  refine ⟨fun W hW _=>?s2,fun W hW _=>?fin⟩
  case s2=>
   go_simp;refine (S2.out W (hE.out.trans hW)).mono ?_;rintro e w' ⟨rfl,hx⟩;exact ⟨rfl,hx⟩
  case fin=>
   replace z0:=hW.blk z0.out;replace hE:=mK (hE.out.trans hW);have y0:=Al z0 0;replace y0:W.cell? ⟨w.heap.size,0,none⟩=some (.int .u8 kd):=y0;clear hW z0 S1 S2 HC;go_simp;by_cases k1:kd=1
   ·subst k1
    by_cases hs:0≤sp
    ·have e1:decide (0≤sp)=true:=by simp [hs]
     go_wp2_with fail;go_ret;exact ⟨by simp [mayS,hs],hE.out⟩
    ·have e1:decide (0≤sp)=false:=by simp [hs]
     go_wp2_with fail;go_ret;exact ⟨by simp [mayS];intro h;omega,hE.out⟩
   by_cases k2:kd=2
   ·subst k2
    go_wp2_with fail;go_ret;exact ⟨by simp [mayS],hE.out⟩
   by_cases k3:kd=3
   ·subst k3
    by_cases hs:0≤sp
    ·have e1:decide (0≤sp)=true:=by simp [hs]
     go_wp2_with fail;go_ret;exact ⟨by simp [mayS,hs],hE.out⟩
    ·have e1:decide (0≤sp)=false:=by simp [hs]
     go_wp2_with fail;go_ret;exact ⟨by simp [mayS];intro h;omega,hE.out⟩
   by_cases k4:kd=4
   ·subst k4
    go_wp2_with fail;go_ret;exact ⟨by simp [mayS],hE.out⟩
   by_cases k5:kd=5
   ·subst k5
    by_cases hs:sp=0
    ·subst hs
     go_wp2_with fail;go_ret;exact ⟨by simp [mayS],hE.out⟩
    ·have e1:(sp==0)=false:=by simpa using hs
     go_wp2_with fail;go_ret;exact ⟨by simp [mayS,hs],hE.out⟩
   have d1:(kd==1)=false:=by simpa using k1
   have d2:(kd==2)=false:=by simpa using k2
   have d3:(kd==3)=false:=by simpa using k3
   have d4:(kd==4)=false:=by simpa using k4
   have d5:(kd==5)=false:=by simpa using k5
   go_wp2_with fail;go_ret;exact ⟨by simp [mayS,k1,k2,k3,k4,k5],hE.out⟩
def mayP (kd co:Int)(op oq:Option Rat):Bool:=decide (0≤co)&&(decide (co≤1073741824)&&mayO kd op oq)
abbrev Zw:Value:=.agg #[.string ⟨#[]⟩,.int .u8 0,.bool false,.slice none 0 0,.bool false,.slice none 0 0,.bool false,.slice none 0 0,.bool false,.slice none 0 0,.int .i64 0]
end Go.Proofs.YtlknpnommcohkaaGreatDoor
namespace Go.Proofs.YtlknpnommcohkaaGreatDoor
set_option maxRecDepth 100000
open Go Go.RowKit Go.Proofs Go.Shelf Go.Lib
def Hc (c:UInt8):Bool:=(decide (97≤c.toNat)&&decide (c.toNat≤122))||(decide (48≤c.toNat)&&decide (c.toNat≤57))||c.toNat==45
def Eq (l:List UInt8):Bool:=decide (0<l.length)&&(decide (l.length≤32)&&(decide (97≤(l.headD 0).toNat)&&(decide ((l.headD 0).toNat≤122)&&l.all Hc)))
end Go.Proofs.YtlknpnommcohkaaGreatDoor
namespace Go.Proofs.YtlknpnommcohkaaGreatDoor
set_option maxRecDepth 100000
open Go Go.RowKit Go.Proofs
theorem Aem {b:Bool}{a:Option Addr}{n c g:Nat}(h:a.map (·.block)=some g):g∈Aloof.blks (.agg #[.bool b,.slice a n c]):=by
 cases a with
 | none=>cases h
 | some a=>simpa [Aloof.blks,Aloof.blk1,Value.cells,eq_comm] using h
theorem MagO.near {w w':World}{base:Nat}{a:Option Addr}{n c:Nat}{l:List Nat}(h:MagO w base (.slice a n c) l)(e:∀ g,a.map (·.block)=some g→w'.heap[g]? = w.heap[g]?):MagO w' base (.slice a n c) l:=by
 obtain ⟨h1,h|⟨g,cap,cur,e1,h2,h3,r⟩⟩:=h
 ·exact ⟨h1,.inl h⟩
 ·cases e1
  exact ⟨h1,.inr ⟨g,_,cur,rfl,h2,(e g rfl).trans h3,r⟩⟩
theorem IntO.near {w w':World}{base:Nat}{v:Value}{x:Int}(h:IntO w base v x)(e:∀ g∈Aloof.blks v,w'.heap[g]? = w.heap[g]?):IntO w' base v x:=by
 obtain ⟨b,a,n,c,rfl⟩:=h.r.shape;obtain ⟨s,e',hm⟩:=h;cases e';exact ⟨_,rfl,hm.near fun g hg=>e g (Aem hg)⟩
theorem FracO.near {w w':World}{base:Nat}{v:Value}{q:Rat}(h:FracO w base v q)(e:∀ g∈Aloof.blks v,w'.heap[g]? = w.heap[g]?):FracO w' base v q:=by
 obtain ⟨b1,a1,n1,c1,b2,a2,n2,c2,rfl,h1,h2⟩:=h;rw [Oh] at e;exact ⟨_,_,_,_,_,_,_,_,rfl,h1.near fun g hg=>e g (List.mem_append_left _ hg),h2.near fun g hg=>e g (List.mem_append_right _ hg)⟩
def okPD (d:PD):Prop:=nf d.p≤2048∧nf d.q≤2048∧Eq d.nm.data.toList=true∧mayP d.kd d.co (some d.p) (some d.q)=true
structure FV where
 b1:Bool
 a1:Option Addr
 n1:Nat
 c1:Nat
 b2:Bool
 a2:Option Addr
 n2:Nat
 c2:Nat
theorem AnyF.fv {w:World}{v:Value}{o:Option Rat}(h:AnyF w v o):∃ p:FV,v=.agg #[.bool p.b1,.slice p.a1 p.n1 p.c1,.bool p.b2,.slice p.a2 p.n2 p.c2]:=by
 obtain ⟨b1,a1,n1,c1,b2,a2,n2,c2,e⟩:=h.shape;exact ⟨⟨b1,a1,n1,c1,b2,a2,n2,c2⟩,e⟩
theorem FracR.fv {w:World}{v:Value}{x:Rat}(h:FracR w v x):∃ p:FV,v=.agg #[.bool p.b1,.slice p.a1 p.n1 p.c1,.bool p.b2,.slice p.a2 p.n2 p.c2]:=by
 obtain ⟨b1,a1,n1,c1,b2,a2,n2,c2,e⟩:=h.shape;exact ⟨⟨b1,a1,n1,c1,b2,a2,n2,c2⟩,e⟩
structure RE where
 kd:Int
 op:Option Rat
 oq:Option Rat
def EltA (w:World)(v:Value)(r:RE):Prop:=∃ p q:FV,v=.agg #[.int .u8 r.kd,.bool p.b1,.slice p.a1 p.n1 p.c1,.bool p.b2,.slice p.a2 p.n2 p.c2,.bool q.b1,.slice q.a1 q.n1 q.c1,.bool q.b2,.slice q.a2 q.n2 q.c2]∧AnyF w (.agg #[.bool p.b1,.slice p.a1 p.n1 p.c1,.bool p.b2,.slice p.a2 p.n2 p.c2]) r.op∧AnyF w (.agg #[.bool q.b1,.slice q.a1 q.n1 q.c1,.bool q.b2,.slice q.a2 q.n2 q.c2]) r.oq
theorem EltA.ext {w w':World}{v:Value}{r:RE}(h:EltA w v r)(e:Ext w w'):EltA w' v r:=by
 obtain ⟨p,q,e0,h1,h2⟩:=h;exact ⟨p,q,e0,h1.ext e,h2.ext e⟩
def mayE (r:RE):Bool:=mayO r.kd r.op r.oq
def chkE (l:List RE):Int:=if 4096<l.length then 4 else if l.all mayE then 0 else 1
theorem Ex (s:Value)(os:List (RE×Value))(w:World)(hn:os.length≤1099511627776)(h:Ls 9 EltA w s os) :
  Calls Tryz.prog 65 #[s] w fun e w'=>e=.returned (.int .i64 (chkE (os.map (·.1))))∧Ext w w':=by
 obtain ⟨a,c,e1,hc⟩:=h.slice;have H:=mK (fun W (e:Ext w W)=>h.ext (fun v r (x:EltA w v r)=>x.ext e) e);obtain ⟨n,hnn⟩:=nmE os.length;rw [←hnn] at e1 hn;have hT:(os.all fun x=>mayE x.1)=(os.map (·.1)).all mayE:=by rw [List.all_map];rfl
 obtain ⟨r,hr⟩:=nmE (chkE (os.map (·.1)));rw [←hr];unfold chkE at hr;rw [List.length_map,←hnn,←hT] at hr;subst e1;obtain ⟨wo,hwo⟩:=nmE (w:World);rw [←hwo] at H;have st:Hid (∃ k:Nat,k≤n∧Value.int .i64 0=.int .i64 k∧Ext wo w∧∀ j,(hj:j<os.length)→j<k→mayE os[j].1=true):=⟨0,Nat.zero_le _,rfl,hwo ▸ xR _,fun j _ hj=>absurd hj (by omega)⟩
 replace hnn:=mK hnn;replace hwo:=mK hwo;clear h hT hc;by_cases hb:4096<n
 ·rw [if_pos hb] at hr
  subst hr;have hb2:decide ((4096:Int)<(n:Int))=true:=by simp;omega
  go_enter Tryz.func65,Tryz.ntmps65;go_wp2_with fail;go_ret;exact ⟨rfl,xR _⟩
 ·rw [if_neg hb] at hr
  have hb2:decide ((4096:Int)<(n:Int))=false:=by simp;omega
  replace hr:=mK hr;go_enter Tryz.func65,Tryz.ntmps65;go_wp2_with fail;go_loopw [10] (fun i wr=>∃ k:Nat,k≤n∧i=.int .i64 k∧Ext wo wr∧∀ j,(hj:j<os.length)→j<k→mayE os[j].1=true) (fun i _=>n-(intOf i).toNat)
  case atStart=>exact st.out
  case round=>
   clear st;obtain ⟨k,hk,rfl,hE,hj⟩:=hrel;obtain ⟨w2,rfl⟩:=nmE (wr:World);by_cases hlt:k<n
   ·have hkl:k<os.length:=by rw [←hnn.out];exact hlt
    obtain ⟨b,o,c1,x1,-,hrg,p,q,e0,f1,f2⟩:=(H.out w2 hE).get (by decide) hkl;rw [←hnn.out] at x1;simp only [Value.slice.injEq,true_and] at x1;obtain ⟨rfl,rfl⟩:=x1;rw [e0] at hrg;replace hrg:w2.rangeAt b (o+k*9) [.int .u8 os[k].1.kd,.bool p.b1,.slice p.a1 p.n1 p.c1,.bool p.b2,.slice p.a2 p.n2 p.c2,.bool q.b1,.slice q.a1 q.n1 q.c1,.bool q.b2,.slice q.a2 q.n2 q.c2]:=hrg
    have hmk:∀ B,B=mayE os[k].1→(B=true→∀ j,(hj:j<os.length)→j<k+1→mayE os[j].1=true)∧(B=false→r=1):=by
     rintro B rfl;refine ⟨fun ht j hjl hjk=>?_,fun hf=>?_⟩
     ·rcases Nat.lt_or_ge j k with h|h
      ·exact hj j hjl h
      ·obtain rfl:j=k:=by omega
       exact ht
     ·rw [hr.out,if_neg]
      intro ha;have:=List.all_eq_true.1 ha _ (List.getElem_mem hkl);rw [hf] at this;cases this
    obtain ⟨B,hB⟩:=nmE (mayE os[k].1);have hmk:=hmk B hB;have K:=fun W (e:Ext w2 W)=>Vg os[k].1.kd p.b1 p.a1 p.n1 p.c1 p.b2 p.a2 p.n2 p.c2 q.b1 q.a1 q.n1 q.c1 q.b2 q.a2 q.n2 q.c2 os[k].1.op os[k].1.oq W (f1.ext e) (f2.ext e);unfold mayE at hB;rw [←hB] at K;clear hB;generalize os[k].1.kd=kd at *;replace K:=mK K;replace hmk:=mK hmk;replace hE:=mK hE;replace hj:=mK hj;obtain ⟨w3,hw3⟩:=nmE (w2.alloc (.cells #[.int .u8 kd,.bool p.b1,.slice p.a1 p.n1 p.c1,.bool p.b2,.slice p.a2 p.n2 p.c2,.bool q.b1,.slice q.a1 q.n1 q.c1,.bool q.b2,.slice q.a2 q.n2 q.c2] 72));have hE3:=mK (aLe1 hw3);have zV:=mK (aL10 hw3);replace hw3:=mK hw3;replace hrg:=mK hrg;clear e0 f1 f2;cases B
    all_goals
     have tok:Tok 8:=.mk _
     go_wp2_with (first
      | (replace tok:Tok 9:=nxT 8 tok;refine wpList_load_mid (by rfl) 72 (.tmp 12) rfl b (o+k*9) rfl [.int .u8 kd,.bool p.b1,.slice p.a1 p.n1 p.c1,.bool p.b2,.slice p.a2 p.n2 p.c2,.bool q.b1,.slice q.a1 q.n1 q.c1,.bool q.b2,.slice q.a2 q.n2 q.c2] _ hrg.out Tryz.underlying72 rfl (by kernel_rfl) ?_)
      | (replace tok:Tok 10:=nxT 9 tok;rw [←hw3.out];refine wpList_load_row (by rfl) 72 (.tmp 4) rfl (w2.heap.size) rfl 72 #[.int .u8 kd,.bool p.b1,.slice p.a1 p.n1 p.c1,.bool p.b2,.slice p.a2 p.n2 p.c2,.bool q.b1,.slice q.a1 q.n1 q.c1,.bool q.b2,.slice q.a2 q.n2 q.c2] (0,0) _ zV.out Tryz.underlying72 rfl (by kernel_rfl) ?_)
      | (replace tok:Tok 11:=nxT 10 tok;go_at_call 113;refine (K.out _ hE3.out).mono ?_;rintro e w4 ⟨rfl,hx⟩;replace hE3:=mK (hE3.out.trans hx);clear hx))
    ·go_ret
     exact ⟨by rw [hmk.out.2 (by trivial)];rfl,hwo.out ▸ hE.out.trans hE3.out⟩
    ·go_roundw
     case rel=>exact ⟨k+1,by omega,by go_num,hE.out.trans hE3.out,hmk.out.1 (by trivial)⟩
     case measure=>simp [intOf]<;>omega
   ·obtain rfl:n=k:=by omega
    have hf:r=0:=by
     rw [hr.out,if_pos];rw [List.all_eq_true];intro x hx;obtain ⟨j,hjl,rfl⟩:=List.getElem_of_mem hx;exact hj j hjl (by rw [hnn.out];exact hjl)
    subst hf;replace hE:=mK hE;replace hj:=mK hj;go_wp2_with fail;go_ret;exact ⟨rfl,hwo.out ▸ hE.out⟩
end Go.Proofs.YtlknpnommcohkaaGreatDoor
namespace Go.Proofs.YtlknpnommcohkaaGreatDoor
set_option maxRecDepth 100000
open Go Go.ChangeShapes Go.WideShapes Go.ChangeAt Go.RowKit Go.Joins Go.Deep
structure LIn (n:Nat) (R:World→Value→Prop) (w:World) (s:Value) (vs:List Value):Prop where
 at':∃ a c,s=.slice a vs.length c∧vs.length≤c∧Row w a (cv vs)
 len:vs.length≤140737488355328
 raw:∀ v∈vs,R w v
 sz:∀ v∈vs,v.cells.size=n
theorem Aeq (a:Addr)(i j:Nat):(a.add i).add j=a.add (i+j):=by
 unfold Addr.add;by_cases h1:i=0<;>by_cases h2:j=0<;>simp [h1,h2,Nat.add_assoc]<;>omega
theorem Aat {n:Nat}{R:World→Value→Prop}{w:World}{a:Addr}{len:Nat}(hn:0<n)
  (each:∀ i,i<len→∃ v,R w v∧v.cells.size=n∧∀ j,j<n→w.cell? (a.add (i*n+j))=v.cells[j]?) :
  ∃ vs:List Value,vs.length=len∧(∀ v∈vs,R w v)∧(∀ v∈vs,v.cells.size=n)∧Row w (some a) (cv vs):=by
 obtain ⟨vs,hvl,hve⟩:∃ vs:List Value,vs.length=len∧∀ i (h:i<vs.length),R w vs[i]∧vs[i].cells.size=n∧∀ j,j<n→w.cell? (a.add (i*n+j))=vs[i].cells[j]?:=by
  induction len with
  | zero=>exact ⟨[],rfl,fun i h=>absurd h (Nat.not_lt_zero _)⟩
  | succ m ih=>
   obtain ⟨vs,h1,h2⟩:=ih (fun i hi=>each i (by omega));obtain ⟨v,h3,h4⟩:=each m (by omega);refine ⟨vs++[v],by simp [h1],fun i hi=>?_⟩;rcases Nat.lt_or_ge i vs.length with h|h
   ·rw [List.getElem_append_left h]
    exact h2 i h
   ·have:i=m:=by simp at hi;omega
    subst this;rw [List.getElem_append_right h];simp only [h1,Nat.sub_self,List.getElem_cons_zero];exact ⟨h3,h4⟩
 subst hvl
 have hraw:∀ v∈vs,R w v:=fun v hv=>by
  obtain ⟨i,hi',rfl⟩:=List.mem_iff_getElem.1 hv;exact (hve i hi').1
 have his:∀ v∈vs,v.cells.size=n:=fun v hv=>by
  obtain ⟨i,hi',rfl⟩:=List.mem_iff_getElem.1 hv;exact (hve i hi').2.1
 have hcell:∀ j,j<(cv vs).length→w.cell? (a.add j)=some ((cv vs).getD j undef):=by
  intro j hj;have hj0:=hj;rw [Pz his] at hj;have hq:j/n<vs.length:=Nat.div_lt_of_lt_mul (by rw [Nat.mul_comm];exact hj);have hr:j%n<n:=Nat.mod_lt _ hn;have e:j=j/n*n+j%n:=by rw [Nat.mul_comm];exact (Nat.div_add_mod j n).symm
  have h1:=(hve _ hq).2.2 _ hr;have h2:=Ae2 his hq _ hr;rw [←e] at h1 h2;rw [h1,←h2,List.getD_eq_getElem?_getD,List.getElem?_eq_getElem hj0];rfl
 have hspot:cv vs≠[]→a=⟨a.block,a.off,none⟩:=by
  intro hne;have h0:0<(cv vs).length:=List.length_pos_iff.2 hne;have:=hcell 0 h0;obtain ⟨bl,of,sp⟩:=a;have:sp=none:=by simpa [Addr.add] using World.cell?_spot this
  subst this;rfl
 refine ⟨vs,rfl,hraw,his,a.block,a.off,fun hne=>by rw [←hspot hne],fun j hj=>?_⟩;have hne:cv vs≠[]:=by intro e;rw [e] at hj;simp at hj
 have hadd:a.add j=⟨a.block,a.off+j,none⟩:=by
  rw [hspot hne];unfold Addr.add;split
  ·rename_i h;simp [h]
  ·rfl
 rw [←hadd];exact hcell j hj
theorem Vl {H:Type}{P:Program}{e:TypeId}:∀ {l:List (DataW H)} {d:DataW H} {k:Nat},d∈l→k∈d.weights P e→k∈DataW.weightsAll P e l
 | [],_,_,h,_=>by cases h
 | x::r,d,k,h,hk=>by
  rw [DataW.weightsAll]
  rcases List.mem_cons.1 h with rfl|h
  ·exact List.mem_append_left _ hk
  ·exact List.mem_append_right _ (Vl h hk)
def RawE (w:World)(v:Value):Prop:=∃ (kd:Int) (p q:FV),v=.agg #[.int .u8 kd,.bool p.b1,.slice p.a1 p.n1 p.c1,.bool p.b2,.slice p.a2 p.n2 p.c2,.bool q.b1,.slice q.a1 q.n1 q.c1,.bool q.b2,.slice q.a2 q.n2 q.c2]∧RawF w (.agg #[.bool p.b1,.slice p.a1 p.n1 p.c1,.bool p.b2,.slice p.a2 p.n2 p.c2])∧RawF w (.agg #[.bool q.b1,.slice q.a1 q.n1 q.c1,.bool q.b2,.slice q.a2 q.n2 q.c2])
def RawN (_w:World)(v:Value):Prop:=∃ n:Int,v=.int .i64 n∧-9223372036854775808≤n∧n≤9223372036854775807
def RawQ (w:World)(v:Value):Prop:=∃ (nm:ByteArray) (kd co:Int) (p q:FV),v=.agg #[.string nm,.int .u8 kd,.bool p.b1,.slice p.a1 p.n1 p.c1,.bool p.b2,.slice p.a2 p.n2 p.c2,.bool q.b1,.slice q.a1 q.n1 q.c1,.bool q.b2,.slice q.a2 q.n2 q.c2,.int .i64 co]∧nm.size≤140737488355328∧RawF w (.agg #[.bool p.b1,.slice p.a1 p.n1 p.c1,.bool p.b2,.slice p.a2 p.n2 p.c2])∧RawF w (.agg #[.bool q.b1,.slice q.a1 q.n1 q.c1,.bool q.b2,.slice q.a2 q.n2 q.c2])
theorem Dq {w:World}{v:Value}(h:RawF w v):∃ f:FV,v=.agg #[.bool f.b1,.slice f.a1 f.n1 f.c1,.bool f.b2,.slice f.a2 f.n2 f.c2]:=by
 obtain ⟨b1,a1,c1,b2,a2,c2,l1,l2,e,-⟩:=h;exact ⟨⟨b1,a1,_,c1,b2,a2,_,c2⟩,e⟩
theorem Acn:1≤Tryz.prog.bytesOf 72:=of_decide_eq_true (by kernel_rfl)
theorem Acm:1≤Tryz.prog.bytesOf 28:=of_decide_eq_true (by kernel_rfl)
theorem Acl:1≤Tryz.prog.bytesOf 74:=of_decide_eq_true (by kernel_rfl)
theorem Aej:1≤Tryz.prog.bytesOf 3:=of_decide_eq_true (by kernel_rfl)
section
variable {H:Type} {enc:TypeId×Value→H} {w:World} {base:Nat} {spare:Nat→Bool} {held:Bool}
theorem Hr {sl E n:Nat}{R:World→Value→Prop}(hu:Tryz.prog.underlying sl=some (.slice E))(hb1:1≤Tryz.prog.bytesOf E)(hn:0<n)(hc:Tryz.prog.cellsOf E=n)
  {fuel:Nat} {cs:List Value} {x:DataW H×List MemPlace} (h:DataW.trod enc Tryz.prog w base spare held fuel sl cs=some x) (M:Nat) (hw:∀ k∈x.1.weights Tryz.prog sl,k≤M) (hM:M≤140737488355328)
  (op:∀ (fuel:Nat) (cs:List Value) (x:DataW H×List MemPlace),DataW.trod enc Tryz.prog w base spare held fuel E cs=some x→(∀ k∈x.1.weights Tryz.prog E,k≤M)→∃ v,v.cells.toList=cs∧v.cells.size=n∧R w v) :
  ∃ s vs,cs=[s]∧LIn n R w s vs:=by
 rcases open_slice hu h with ⟨rfl,_⟩|⟨a,len,cap,m,n',D,Pl,rfl,hb,hl,hm,hmm,rfl,hi⟩
 ·exact ⟨_,[],rfl,⟨none,0,rfl,nR _,Gh w⟩,by simp,fun v hv=>(by cases hv),fun v hv=>(by cases hv)⟩
 ·have hlm:len≤m:=by rw [hmm];split<;>omega
  have hwt:len≤M:=by
   have:=hw ((len+(m-len))*Tryz.prog.bytesOf E) (by simp [DataW.weights,hu]);have h2:len*1≤(len+(m-len))*Tryz.prog.bytesOf E:=Nat.mul_le_mul (by omega) hb1;omega
  have each:∀ i,i<len→∃ v,R w v∧v.cells.size=n∧∀ j,j<n→w.cell? (a.add (i*n+j))=v.cells[j]?:=by
   intro i hlt;obtain ⟨cs',h1,h2⟩:=hi i (by omega);rw [hc] at h1;obtain ⟨_,_,hat⟩:=World.cells?_some h1
   obtain ⟨v,hv1,hv2,hv3⟩:=op _ _ _ h2 fun k hk=>by
    refine hw k ?_;have:D i∈(List.range len).map D:=List.mem_map.2 ⟨i,List.mem_range.2 hlt,rfl⟩;simp only [DataW.weights,hu];exact List.mem_cons_of_mem _ (List.mem_append_left _ (Vl this hk))
   refine ⟨v,hv3,hv2,fun j hj=>?_⟩;have:=hat j hj;rw [Aeq] at this;rw [this,←hv1];simp
  obtain ⟨vs,hvl,hraw,his,hrow⟩:=Aat hn each;subst hvl;exact ⟨_,vs,rfl,⟨some a,cap,rfl,hl,hrow⟩,by omega,hraw,his⟩
theorem Tr {fuel:Nat}{cs:List Value}{x:DataW H×List MemPlace}(M:Nat)(hM:M≤140737488355328)(h:DataW.trod enc Tryz.prog w base spare held fuel 72 cs=some x)(hw:∀ k∈x.1.weights Tryz.prog 72,k≤M) :
  ∃ v,v.cells.toList=cs∧v.cells.size=9∧RawE w v:=by
 obtain ⟨kd,p1,p2,p3,p4,q1,q2,q3,q4,rfl,hx⟩:=Nt h;obtain ⟨f1,f2⟩:=hx M hw hM;obtain ⟨p,e1⟩:=Dq f1;obtain ⟨q,e2⟩:=Dq f2;simp only [Value.agg.injEq,Array.mk.injEq,List.cons.injEq,and_true] at e1 e2;obtain ⟨rfl,rfl,rfl,rfl⟩:=e1;obtain ⟨rfl,rfl,rfl,rfl⟩:=e2;exact ⟨.agg #[.int .u8 kd,.bool p.b1,.slice p.a1 p.n1 p.c1,.bool p.b2,.slice p.a2 p.n2 p.c2,.bool q.b1,.slice q.a1 q.n1 q.c1,.bool q.b2,.slice q.a2 q.n2 q.c2],rfl,rfl,kd,p,q,rfl,f1,f2⟩
theorem Ee {fuel:Nat}{cs:List Value}{x:DataW H×List MemPlace}(M:Nat)(hM:M≤140737488355328)(h:DataW.trod enc Tryz.prog w base spare held fuel 28 cs=some x)(hw:∀ k∈x.1.weights Tryz.prog 28,k≤M) :
  ∃ v,v.cells.toList=cs∧v.cells.size=4∧RawF w v:=by
 obtain ⟨v1,v2,v3,v4,rfl,hx⟩:=Ih h;exact ⟨.agg #[v1,v2,v3,v4],rfl,rfl,hx M hw hM⟩
theorem Tq {fuel:Nat}{cs:List Value}{x:DataW H×List MemPlace}(M:Nat)(hM:M≤140737488355328)(h:DataW.trod enc Tryz.prog w base spare held fuel 74 cs=some x)(hw:∀ k∈x.1.weights Tryz.prog 74,k≤M) :
  ∃ v,v.cells.toList=cs∧v.cells.size=11∧RawQ w v:=by
 obtain ⟨nm,kd,p1,p2,p3,p4,q1,q2,q3,q4,co,rfl,hx⟩:=Yf h;obtain ⟨hs,f1,f2⟩:=hx M hw hM;obtain ⟨p,e1⟩:=Dq f1;obtain ⟨q,e2⟩:=Dq f2;simp only [Value.agg.injEq,Array.mk.injEq,List.cons.injEq,and_true] at e1 e2;obtain ⟨rfl,rfl,rfl,rfl⟩:=e1;obtain ⟨rfl,rfl,rfl,rfl⟩:=e2;exact ⟨.agg #[.string nm,.int .u8 kd,.bool p.b1,.slice p.a1 p.n1 p.c1,.bool p.b2,.slice p.a2 p.n2 p.c2,.bool q.b1,.slice q.a1 q.n1 q.c1,.bool q.b2,.slice q.a2 q.n2 q.c2,.int .i64 co],rfl,rfl,nm,kd,co,p,q,rfl,nT hs hM,f1,f2⟩
theorem Yg {fuel:Nat}{cs:List Value}{x:DataW H×List MemPlace}(h:DataW.trod enc Tryz.prog w base spare held fuel 3 cs=some x) :
  ∃ v,v.cells.toList=cs∧v.cells.size=1∧RawN w v:=by
 obtain ⟨n,rfl,_,hwf⟩:=DataW.trod_int Tryz.underlying3 h;have h1:IntKind.i64.min≤n∧n≤IntKind.i64.max:=by simpa [Lit.wf] using hwf
 have e1:IntKind.i64.min = -9223372036854775808:=rfl;have e2:IntKind.i64.max=9223372036854775807:=rfl;exact ⟨.int .i64 n,rfl,rfl,n,rfl,by omega,by omega⟩
end
theorem Zn:Tryz.prog.cellsOf 23=1:=by kernel_rfl
theorem Zm:Tryz.prog.cellsOf 31=1:=by kernel_rfl
theorem Zi:Tryz.prog.cellsOf 32=1:=by kernel_rfl
theorem Zl:Tryz.prog.cellsOf 35=1:=by kernel_rfl
theorem Mo:Tryz.prog.cellsOf 34=6:=by kernel_rfl
theorem Og:Tryz.prog.cellsOf 37=6:=by kernel_rfl
theorem Zj:Tryz.prog.cellsOf 22=1:=by kernel_rfl
theorem Acj:Tryz.prog.cellsOf 39=27:=by kernel_rfl
theorem Mp:Tryz.prog.cellsOf 30=8:=by kernel_rfl
theorem Aew {α:Type}{l:List α}(h:l.length=6):∃ c0 c1 c2 c3 c4 c5,l=[c0,c1,c2,c3,c4,c5]:=by
 match l,h with
 | [c0,c1,c2,c3,c4,c5],_=>exact ⟨c0,c1,c2,c3,c4,c5,rfl⟩
theorem Agz {α:Type}{l:List α}(h:l.length=7):∃ c0 c1 c2 c3 c4 c5 c6,l=[c0,c1,c2,c3,c4,c5,c6]:=by
 match l,h with
 | [c0,c1,c2,c3,c4,c5,c6],_=>exact ⟨c0,c1,c2,c3,c4,c5,c6,rfl⟩
theorem Agy {α:Type}{l:List α}(h:l.length=8):∃ c0 c1 c2 c3 c4 c5 c6 c7,l=[c0,c1,c2,c3,c4,c5,c6,c7]:=by
 match l,h with
 | [c0,c1,c2,c3,c4,c5,c6,c7],_=>exact ⟨c0,c1,c2,c3,c4,c5,c6,c7,rfl⟩
theorem Afy {α:Type}{l:List α}(h:l.length=27):∃ c0 c1 c2 c3 c4 c5 c6 c7 c8 c9 c10 c11 c12 c13 c14 c15 c16 c17 c18 c19 c20 c21 c22 c23 c24 c25 c26,l=[c0,c1,c2,c3,c4,c5,c6,c7,c8,c9,c10,c11,c12,c13,c14,c15,c16,c17,c18,c19,c20,c21,c22,c23,c24,c25,c26]:=by
 match l,h with
 | [c0,c1,c2,c3,c4,c5,c6,c7,c8,c9,c10,c11,c12,c13,c14,c15,c16,c17,c18,c19,c20,c21,c22,c23,c24,c25,c26],_=>exact ⟨c0,c1,c2,c3,c4,c5,c6,c7,c8,c9,c10,c11,c12,c13,c14,c15,c16,c17,c18,c19,c20,c21,c22,c23,c24,c25,c26,rfl⟩
structure PVd where
 kd:Int
 s1:Value
 y:FV
 u:FV
 m:FV
 st:Int
 s2:Value
 s3:Value
 tg:FV
 s4:Value
 pw:FV
 co:Int
def Ct (s2 s3:Value)(tg:FV):Array Value:=#[s2,s3,.bool tg.b1,.slice tg.a1 tg.n1 tg.c1,.bool tg.b2,.slice tg.a2 tg.n2 tg.c2]
def chcC (s4:Value)(pw:FV)(co:Int):Array Value:=#[s4,.bool pw.b1,.slice pw.a1 pw.n1 pw.c1,.bool pw.b2,.slice pw.a2 pw.n2 pw.c2,.int .i64 co]
def pfC (x:PVd):Array Value:=#[.int .u8 x.kd,x.s1,.bool x.y.b1,.slice x.y.a1 x.y.n1 x.y.c1,.bool x.y.b2,.slice x.y.a2 x.y.n2 x.y.c2,.bool x.u.b1,.slice x.u.a1 x.u.n1 x.u.c1,.bool x.u.b2,.slice x.u.a2 x.u.n2 x.u.c2,.bool x.m.b1,.slice x.m.a1 x.m.n1 x.m.c1,.bool x.m.b2,.slice x.m.a2 x.m.n2 x.m.c2,.int .i64 x.st,x.s2,x.s3,.bool x.tg.b1,.slice x.tg.a1 x.tg.n1 x.tg.c1,.bool x.tg.b2,.slice x.tg.a2 x.tg.n2 x.tg.c2,x.s4,.bool x.pw.b1,.slice x.pw.a1 x.pw.n1 x.pw.c1,.bool x.pw.b2,.slice x.pw.a2 x.pw.n2 x.pw.c2,.int .i64 x.co]
structure RawPf (w:World) (x:PVd) (l1 l2 l3 l4:List Value):Prop where
 be:LIn 9 RawE w x.s1 l1
 sp:LIn 4 RawF w x.s2 l2
 pt:LIn 11 RawQ w x.s3 l3
 pk:LIn 1 RawN w x.s4 l4
 fy:RawF w (.agg #[.bool x.y.b1,.slice x.y.a1 x.y.n1 x.y.c1,.bool x.y.b2,.slice x.y.a2 x.y.n2 x.y.c2])
 fu:RawF w (.agg #[.bool x.u.b1,.slice x.u.a1 x.u.n1 x.u.c1,.bool x.u.b2,.slice x.u.a2 x.u.n2 x.u.c2])
 fm:RawF w (.agg #[.bool x.m.b1,.slice x.m.a1 x.m.n1 x.m.c1,.bool x.m.b2,.slice x.m.a2 x.m.n2 x.m.c2])
 ft:RawF w (.agg #[.bool x.tg.b1,.slice x.tg.a1 x.tg.n1 x.tg.c1,.bool x.tg.b2,.slice x.tg.a2 x.tg.n2 x.tg.c2])
 fp:RawF w (.agg #[.bool x.pw.b1,.slice x.pw.a1 x.pw.n1 x.pw.c1,.bool x.pw.b2,.slice x.pw.a2 x.pw.n2 x.pw.c2])
 st:-9223372036854775808≤x.st∧x.st≤9223372036854775807
 co:-9223372036854775808≤x.co∧x.co≤9223372036854775807
 kd:0≤x.kd∧x.kd≤255
section
variable {H:Type} {enc:TypeId×Value→H} {w:World} {base:Nat} {spare:Nat→Bool} {held:Bool}
theorem Ye (M:Nat)(hM:M≤140737488355328){fuel:Nat}{cs:List Value}{x:DataW H×List MemPlace}(h:DataW.trod enc Tryz.prog w base spare held fuel 30 cs=some x)(hw:∀ k∈x.1.weights Tryz.prog 30,k≤M) :
  ∃ p q:FV,cs=[.bool p.b1,.slice p.a1 p.n1 p.c1,.bool p.b2,.slice p.a2 p.n2 p.c2,.bool q.b1,.slice q.a1 q.n1 q.c1,.bool q.b2,.slice q.a2 q.n2 q.c2]∧RawF w (.agg #[.bool p.b1,.slice p.a1 p.n1 p.c1,.bool p.b2,.slice p.a2 p.n2 p.c2])∧RawF w (.agg #[.bool q.b1,.slice q.a1 q.n1 q.c1,.bool q.b2,.slice q.a2 q.n2 q.c2]):=by
 obtain ⟨xs,n,_,rfl,hlen,hxl,hf⟩:=DataW.trod_struct Tryz.underlying30 h;rw [Mp] at hlen;obtain ⟨c0,c1,c2,c3,c4,c5,c6,c7,rfl⟩:=Agy hlen;obtain ⟨y0,y1,rfl⟩:=Jd hxl;have h0:DataW.trod enc Tryz.prog w base spare held n 28 (([c0,c1,c2,c3,c4,c5,c6,c7].drop 0).take (Tryz.prog.cellsOf 28))=some y0:=hf 0 _ rfl;have h1:DataW.trod enc Tryz.prog w base spare held n 28 (([c0,c1,c2,c3,c4,c5,c6,c7].drop 4).take (Tryz.prog.cellsOf 28))=some y1:=hf 1 _ rfl;rw [Dd] at h0;rw [Dd] at h1;obtain ⟨u0,e0,-,f0⟩:=Ee M hM h0 (fun k hk=>hw k (by simp [DataW.weights,Tryz.underlying30,DataW.weightsEach,hk]));obtain ⟨p,rfl⟩:=Dq f0;have e0':[c0,c1,c2,c3]=[.bool p.b1,.slice p.a1 p.n1 p.c1,.bool p.b2,.slice p.a2 p.n2 p.c2]:=e0.symm;simp only [List.cons.injEq,and_true] at e0';obtain ⟨rfl,rfl,rfl,rfl⟩:=e0';obtain ⟨u1,e1,-,f1⟩:=Ee M hM h1 (fun k hk=>hw k (by simp [DataW.weights,Tryz.underlying30,DataW.weightsEach,hk]));obtain ⟨q,rfl⟩:=Dq f1;have e1':[c4,c5,c6,c7]=[.bool q.b1,.slice q.a1 q.n1 q.c1,.bool q.b2,.slice q.a2 q.n2 q.c2]:=e1.symm;simp only [List.cons.injEq,and_true] at e1';obtain ⟨rfl,rfl,rfl,rfl⟩:=e1';exact ⟨p,q,rfl,f0,f1⟩
theorem Tp (M:Nat)(hM:M≤140737488355328){fuel:Nat}{cs:List Value}{x:DataW H×List MemPlace}(h:DataW.trod enc Tryz.prog w base spare held fuel 34 cs=some x)(hw:∀ k∈x.1.weights Tryz.prog 34,k≤M) :
  ∃ (s2 s3:Value) (tg:FV) (l2 l3:List Value),cs=[s2,s3,.bool tg.b1,.slice tg.a1 tg.n1 tg.c1,.bool tg.b2,.slice tg.a2 tg.n2 tg.c2]∧LIn 4 RawF w s2 l2∧LIn 11 RawQ w s3 l3∧RawF w (.agg #[.bool tg.b1,.slice tg.a1 tg.n1 tg.c1,.bool tg.b2,.slice tg.a2 tg.n2 tg.c2]):=by
 obtain ⟨xs,n,_,rfl,hlen,hxl,hf⟩:=DataW.trod_struct Tryz.underlying34 h;rw [Mo] at hlen;obtain ⟨c0,c1,c2,c3,c4,c5,rfl⟩:=Aew hlen;obtain ⟨y0,y1,y2,rfl⟩:=Po hxl;have h0:DataW.trod enc Tryz.prog w base spare held n 31 (([c0,c1,c2,c3,c4,c5].drop 0).take (Tryz.prog.cellsOf 31))=some y0:=hf 0 _ rfl;have h1:DataW.trod enc Tryz.prog w base spare held n 32 (([c0,c1,c2,c3,c4,c5].drop 1).take (Tryz.prog.cellsOf 32))=some y1:=hf 1 _ rfl;have h2:DataW.trod enc Tryz.prog w base spare held n 28 (([c0,c1,c2,c3,c4,c5].drop 2).take (Tryz.prog.cellsOf 28))=some y2:=hf 2 _ rfl;rw [Zm] at h0;rw [Zi] at h1;rw [Dd] at h2;obtain ⟨s2,l2,e0,f0⟩:=Hr (R:=RawF) Tryz.underlying31 Acm (by decide) Dd h0 M (fun k hk=>hw k (by simp [DataW.weights,Tryz.underlying34,DataW.weightsEach,hk])) hM (fun _ _ _ h k=>Ee M hM h k);have e0':[s2]=[c0]:=e0.symm;simp only [List.cons.injEq,and_true] at e0';subst e0';obtain ⟨s3,l3,e1,f1⟩:=Hr (R:=RawQ) Tryz.underlying32 Acl (by decide) Mq h1 M (fun k hk=>hw k (by simp [DataW.weights,Tryz.underlying34,DataW.weightsEach,hk])) hM (fun _ _ _ h k=>Tq M hM h k);have e1':[s3]=[c1]:=e1.symm;simp only [List.cons.injEq,and_true] at e1';subst e1';obtain ⟨u2,e2,-,f2⟩:=Ee M hM h2 (fun k hk=>hw k (by simp [DataW.weights,Tryz.underlying34,DataW.weightsEach,hk]));obtain ⟨tg,rfl⟩:=Dq f2;have e2':[c2,c3,c4,c5]=[.bool tg.b1,.slice tg.a1 tg.n1 tg.c1,.bool tg.b2,.slice tg.a2 tg.n2 tg.c2]:=e2.symm;simp only [List.cons.injEq,and_true] at e2';obtain ⟨rfl,rfl,rfl,rfl⟩:=e2';exact ⟨s2,s3,tg,l2,l3,rfl,f0,f1,f2⟩
theorem Yh (M:Nat)(hM:M≤140737488355328){fuel:Nat}{cs:List Value}{x:DataW H×List MemPlace}(h:DataW.trod enc Tryz.prog w base spare held fuel 37 cs=some x)(hw:∀ k∈x.1.weights Tryz.prog 37,k≤M) :
  ∃ (s4:Value) (pw:FV) (co:Int) (l4:List Value),cs=[s4,.bool pw.b1,.slice pw.a1 pw.n1 pw.c1,.bool pw.b2,.slice pw.a2 pw.n2 pw.c2,.int .i64 co]∧LIn 1 RawN w s4 l4∧RawF w (.agg #[.bool pw.b1,.slice pw.a1 pw.n1 pw.c1,.bool pw.b2,.slice pw.a2 pw.n2 pw.c2])∧-9223372036854775808≤co∧co≤9223372036854775807:=by
 obtain ⟨xs,n,_,rfl,hlen,hxl,hf⟩:=DataW.trod_struct Tryz.underlying37 h;rw [Og] at hlen;obtain ⟨c0,c1,c2,c3,c4,c5,rfl⟩:=Aew hlen;obtain ⟨y0,y1,y2,rfl⟩:=Po hxl;have h0:DataW.trod enc Tryz.prog w base spare held n 35 (([c0,c1,c2,c3,c4,c5].drop 0).take (Tryz.prog.cellsOf 35))=some y0:=hf 0 _ rfl;have h1:DataW.trod enc Tryz.prog w base spare held n 28 (([c0,c1,c2,c3,c4,c5].drop 1).take (Tryz.prog.cellsOf 28))=some y1:=hf 1 _ rfl;have h2:DataW.trod enc Tryz.prog w base spare held n 3 (([c0,c1,c2,c3,c4,c5].drop 5).take (Tryz.prog.cellsOf 3))=some y2:=hf 2 _ rfl;rw [Zl] at h0;rw [Dd] at h1;rw [Fw] at h2;obtain ⟨s4,l4,e0,f0⟩:=Hr (R:=RawN) Tryz.underlying35 Aej (by decide) Fw h0 M (fun k hk=>hw k (by simp [DataW.weights,Tryz.underlying37,DataW.weightsEach,hk])) hM (fun _ _ _ h k=>Yg h);have e0':[s4]=[c0]:=e0.symm;simp only [List.cons.injEq,and_true] at e0';subst e0';obtain ⟨u1,e1,-,f1⟩:=Ee M hM h1 (fun k hk=>hw k (by simp [DataW.weights,Tryz.underlying37,DataW.weightsEach,hk]));obtain ⟨pw,rfl⟩:=Dq f1;have e1':[c1,c2,c3,c4]=[.bool pw.b1,.slice pw.a1 pw.n1 pw.c1,.bool pw.b2,.slice pw.a2 pw.n2 pw.c2]:=e1.symm;simp only [List.cons.injEq,and_true] at e1';obtain ⟨rfl,rfl,rfl,rfl⟩:=e1';obtain ⟨co,e2,_,hwf2⟩:=DataW.trod_int Tryz.underlying3 h2;have e2':[c5]=[.int .i64 co]:=e2;simp only [List.cons.injEq,and_true] at e2';subst e2';have b2:IntKind.i64.min≤co∧co≤IntKind.i64.max:=by simpa [Lit.wf] using hwf2
 replace b2:-9223372036854775808≤co∧co≤9223372036854775807:=b2;exact ⟨s4,pw,co,l4,rfl,f0,f1,b2.1,b2.2⟩
theorem Aa8 (M:Nat)(hM:M≤140737488355328){fuel:Nat}{cs:List Value}{x:DataW H×List MemPlace}(h:DataW.trod enc Tryz.prog w base spare held fuel 39 cs=some x)(hw:∀ k∈x.1.weights Tryz.prog 39,k≤M) :
  ∃ (x:PVd) (l1 l2 l3 l4:List Value),cs=(pfC x).toList∧RawPf w x l1 l2 l3 l4:=by
 obtain ⟨xs,n,_,rfl,hlen,hxl,hf⟩:=DataW.trod_struct Tryz.underlying39 h;rw [Acj] at hlen;obtain ⟨c0,c1,c2,c3,c4,c5,c6,c7,c8,c9,c10,c11,c12,c13,c14,c15,c16,c17,c18,c19,c20,c21,c22,c23,c24,c25,c26,rfl⟩:=Afy hlen;obtain ⟨y0,y1,y2,y3,y4,y5,y6,rfl⟩:=Agz hxl;have h0:DataW.trod enc Tryz.prog w base spare held n 22 (([c0,c1,c2,c3,c4,c5,c6,c7,c8,c9,c10,c11,c12,c13,c14,c15,c16,c17,c18,c19,c20,c21,c22,c23,c24,c25,c26].drop 0).take (Tryz.prog.cellsOf 22))=some y0:=hf 0 _ rfl;have h1:DataW.trod enc Tryz.prog w base spare held n 23 (([c0,c1,c2,c3,c4,c5,c6,c7,c8,c9,c10,c11,c12,c13,c14,c15,c16,c17,c18,c19,c20,c21,c22,c23,c24,c25,c26].drop 1).take (Tryz.prog.cellsOf 23))=some y1:=hf 1 _ rfl;have h2:DataW.trod enc Tryz.prog w base spare held n 30 (([c0,c1,c2,c3,c4,c5,c6,c7,c8,c9,c10,c11,c12,c13,c14,c15,c16,c17,c18,c19,c20,c21,c22,c23,c24,c25,c26].drop 2).take (Tryz.prog.cellsOf 30))=some y2:=hf 2 _ rfl;have h3:DataW.trod enc Tryz.prog w base spare held n 28 (([c0,c1,c2,c3,c4,c5,c6,c7,c8,c9,c10,c11,c12,c13,c14,c15,c16,c17,c18,c19,c20,c21,c22,c23,c24,c25,c26].drop 10).take (Tryz.prog.cellsOf 28))=some y3:=hf 3 _ rfl;have h4:DataW.trod enc Tryz.prog w base spare held n 3 (([c0,c1,c2,c3,c4,c5,c6,c7,c8,c9,c10,c11,c12,c13,c14,c15,c16,c17,c18,c19,c20,c21,c22,c23,c24,c25,c26].drop 14).take (Tryz.prog.cellsOf 3))=some y4:=hf 4 _ rfl;have h5:DataW.trod enc Tryz.prog w base spare held n 34 (([c0,c1,c2,c3,c4,c5,c6,c7,c8,c9,c10,c11,c12,c13,c14,c15,c16,c17,c18,c19,c20,c21,c22,c23,c24,c25,c26].drop 15).take (Tryz.prog.cellsOf 34))=some y5:=hf 5 _ rfl;have h6:DataW.trod enc Tryz.prog w base spare held n 37 (([c0,c1,c2,c3,c4,c5,c6,c7,c8,c9,c10,c11,c12,c13,c14,c15,c16,c17,c18,c19,c20,c21,c22,c23,c24,c25,c26].drop 21).take (Tryz.prog.cellsOf 37))=some y6:=hf 6 _ rfl
 rw [Zj] at h0;rw [Zn] at h1;rw [Mp] at h2;rw [Dd] at h3;rw [Fw] at h4;rw [Mo] at h5;rw [Og] at h6;obtain ⟨kd,e0,_,hwf0⟩:=DataW.trod_int Tryz.underlying22 h0;have e0':[c0]=[.int .u8 kd]:=e0;simp only [List.cons.injEq,and_true] at e0';subst e0';have b0:IntKind.u8.min≤kd∧kd≤IntKind.u8.max:=by simpa [Lit.wf] using hwf0
 replace b0:0≤kd∧kd≤255:=b0;obtain ⟨s1,l1,e1,f1⟩:=Hr (R:=RawE) Tryz.underlying23 Acn (by decide) Il h1 M (fun k hk=>hw k (by simp [DataW.weights,Tryz.underlying39,DataW.weightsEach,hk])) hM (fun _ _ _ h k=>Tr M hM h k);have e1':[s1]=[c1]:=e1.symm;simp only [List.cons.injEq,and_true] at e1';subst e1';obtain ⟨y,u,e2,f2⟩:=Ye M hM h2 (fun k hk=>hw k (by simp [DataW.weights,Tryz.underlying39,DataW.weightsEach,hk]));have e2':[.bool y.b1,.slice y.a1 y.n1 y.c1,.bool y.b2,.slice y.a2 y.n2 y.c2,.bool u.b1,.slice u.a1 u.n1 u.c1,.bool u.b2,.slice u.a2 u.n2 u.c2]=[c2,c3,c4,c5,c6,c7,c8,c9]:=e2.symm;simp only [List.cons.injEq,and_true] at e2';obtain ⟨rfl,rfl,rfl,rfl,rfl,rfl,rfl,rfl⟩:=e2';obtain ⟨u3,e3,-,f3⟩:=Ee M hM h3 (fun k hk=>hw k (by simp [DataW.weights,Tryz.underlying39,DataW.weightsEach,hk]));obtain ⟨m,rfl⟩:=Dq f3;have e3':[c10,c11,c12,c13]=[.bool m.b1,.slice m.a1 m.n1 m.c1,.bool m.b2,.slice m.a2 m.n2 m.c2]:=e3.symm;simp only [List.cons.injEq,and_true] at e3';obtain ⟨rfl,rfl,rfl,rfl⟩:=e3';obtain ⟨st,e4,_,hwf4⟩:=DataW.trod_int Tryz.underlying3 h4;have e4':[c14]=[.int .i64 st]:=e4;simp only [List.cons.injEq,and_true] at e4';subst e4';have b4:IntKind.i64.min≤st∧st≤IntKind.i64.max:=by simpa [Lit.wf] using hwf4
 replace b4:-9223372036854775808≤st∧st≤9223372036854775807:=b4;obtain ⟨s2,s3,tg,l2,l3,e5,f5⟩:=Tp M hM h5 (fun k hk=>hw k (by simp [DataW.weights,Tryz.underlying39,DataW.weightsEach,hk]));have e5':[s2,s3,.bool tg.b1,.slice tg.a1 tg.n1 tg.c1,.bool tg.b2,.slice tg.a2 tg.n2 tg.c2]=[c15,c16,c17,c18,c19,c20]:=e5.symm;simp only [List.cons.injEq,and_true] at e5';obtain ⟨rfl,rfl,rfl,rfl,rfl,rfl⟩:=e5';obtain ⟨s4,pw,co,l4,e6,f6⟩:=Yh M hM h6 (fun k hk=>hw k (by simp [DataW.weights,Tryz.underlying39,DataW.weightsEach,hk]));have e6':[s4,.bool pw.b1,.slice pw.a1 pw.n1 pw.c1,.bool pw.b2,.slice pw.a2 pw.n2 pw.c2,.int .i64 co]=[c21,c22,c23,c24,c25,c26]:=e6.symm;simp only [List.cons.injEq,and_true] at e6';obtain ⟨rfl,rfl,rfl,rfl,rfl,rfl⟩:=e6';exact ⟨⟨kd,s1,y,u,m,st,s2,s3,tg,s4,pw,co⟩,l1,l2,l3,l4,rfl,f1,f5.1,f5.2.1,f6.1,f2.1,f2.2,f3,f5.2.2,f6.2.1,b4,⟨f6.2.2.1,f6.2.2.2⟩,b0⟩
theorem Aaz {r:Reach}{b0:Nat}{v:Value}{d:DataW H}{p:List MemPlace}(hv:Value.okWide Tryz.prog w r b0 39 v)(h:DataW.Trod enc Tryz.prog w base spare held 39 v d p)
  (hM:∀ k∈d.weights Tryz.prog 39,k≤reachBytes):∃ (x:PVd) (l1 l2 l3 l4:List Value),v=.agg (pfC x)∧RawPf w x l1 l2 l3 l4:=by
 obtain ⟨cs,rfl,_⟩:=okWide_struct Tryz.underlying39 hv;obtain ⟨fuel,hh⟩:=h;obtain ⟨x,l1,l2,l3,l4,hcs,hR⟩:=Aa8 reachBytes Aay hh hM
 have:cs=pfC x:=by
  apply Array.toList_inj.1;simpa [Value.cells] using hcs
 subst this;exact ⟨x,l1,l2,l3,l4,rfl,hR⟩
end
end Go.Proofs.YtlknpnommcohkaaGreatDoor
namespace Go.Proofs.YtlknpnommcohkaaGreatDoor
set_option maxRecDepth 100000
open Go Go.RowKit Go.Proofs Go.Lib
def Dj (s:List UInt8):List UInt8:=if s.head? = some 45 then s.tail else s
def negI (s:List UInt8):Bool:=decide (s.head? = some 45)
def badI (s:List UInt8):Bool:=decide (Dj s=[])||(decide ((Dj s).head? = some 48)&&(decide (1<(Dj s).length)||negI s))
def Bz (s:List UInt8):Option Int:=if badI s=true then none else (decFrom 0 (Dj s)).map fun m=>sg (negI s) m
theorem Gp (s:List UInt8):trimPrefix s [45]=Dj s∧hasPrefix s [45]=negI s:=by
 cases s with
 | nil=>exact ⟨rfl,rfl⟩
 | cons c r=>
  by_cases h:c=45
  ·subst h
   exact ⟨by simp [trimPrefix,hasPrefix,Dj],by simp [hasPrefix,negI]⟩
  ·have h':¬(45:UInt8)=c:=fun e=>h e.symm
   have e:[(45:UInt8)].isPrefixOf (c::r)=false:=by simp [List.isPrefixOf,h']
   exact ⟨by simp [trimPrefix,hasPrefix,Dj,h,e],by simp [hasPrefix,negI,h,e]⟩
def digs:List UInt8:=[48,49,50,51,52,53,54,55,56,57]
theorem Ux (b:UInt8):digs.contains b=(digitVal b).isSome:=by
 have h:∀ b:Fin 256,digs.contains (UInt8.ofNat b)=(digitVal (UInt8.ofNat b)).isSome:=by decide
 have:=h ⟨b.toNat,b.toNat_lt⟩;simpa using this
theorem Dh:∀ (l:List UInt8) (a:Nat),(decFrom a l).isSome=l.all fun b=>(digitVal b).isSome
 | [],_=>rfl
 | b::r,a=>by
  rw [List.all_cons]
  unfold decFrom
  cases h:digitVal b with
  | none=>simp
  | some d=>simp [Dh r]
theorem El {α:Type}(p:α→Bool):∀ l:List α,(l.dropWhile p=[]↔l.all p=true)
 | []=>by simp
 | a::r=>by
  rw [List.dropWhile_cons,List.all_cons]
  cases h:p a with
  | true=>simpa using El p r
  | false=>simp
theorem Hl (l:List UInt8):(trimS l digs=[])↔(decFrom 0 l).isSome=true:=by
 have e:(fun b=>digs.contains b)=fun b=>(digitVal b).isSome:=funext Ux;rw [Dh];unfold trimS trimLeftS trimRightS;rw [e,El];constructor
 ·intro h
  have h1:∀ x∈l.reverse.dropWhile (fun b=>(digitVal b).isSome),(digitVal x).isSome=true:=fun x hx=>List.all_eq_true.1 h x (List.mem_reverse.2 hx)
  have h2:l.reverse.dropWhile (fun b=>(digitVal b).isSome)=[]:=by
   cases hd:l.reverse.dropWhile (fun b=>(digitVal b).isSome) with
   | nil=>rfl
   | cons a r=>
    have:=List.head_dropWhile_not (fun b=>(digitVal b).isSome) (l:=l.reverse) (by rw [hd];simp);simp only [hd,List.head_cons] at this;have h3:=h1 a (by rw [hd];exact List.mem_cons_self ..);rw [this] at h3;cases h3
  rw [El] at h2;rw [List.all_eq_true] at h2 ⊢;exact fun x hx=>h2 x (List.mem_reverse.2 hx)
 ·intro h
  have h2:l.reverse.dropWhile (fun b=>(digitVal b).isSome)=[]:=by
   rw [El,List.all_eq_true];exact fun x hx=>List.all_eq_true.1 h x (List.mem_reverse.1 hx)
  rw [h2];rfl
theorem Hi:∀ (l:List UInt8) (a n:Nat),decFrom 0 l=some n→decFrom a l=some (a*10 ^ l.length+n)
 | [],a,n,h=>by
  simp only [decFrom,Option.some.injEq] at h
  subst h
  simp [decFrom]
 | b::r,a,n,h=>by
  unfold decFrom at h ⊢
  cases hd:digitVal b with
  | none=>rw [hd] at h;cases h
  | some d=>
   rw [hd] at h
   simp only at h ⊢
   have hs:(decFrom 0 r).isSome=true:=by
    rw [Dh,←Dh r (0*10+d),h];rfl
   obtain ⟨m,hm⟩:=Option.isSome_iff_exists.1 hs;have h1:=Hi r (0*10+d) m hm;rw [h] at h1;rw [Hi r (a*10+d) m hm];cases h1;rw [List.length_cons,Nat.pow_succ];congr 1;rw [Nat.add_mul,Nat.add_mul,Nat.mul_assoc,Nat.mul_comm 10 (10 ^ r.length)];omega
theorem My (l:List UInt8)(n j k:Nat)(h:decFrom 0 l=some n)(hk:j+k≤l.length) :
  ∃ m p,decFrom 0 (l.take j)=some m∧decFrom 0 ((l.drop j).take k)=some p∧p<10 ^ k∧decFrom 0 (l.take (j+k))=some (m*10 ^ k+p):=by
 have hall:(l.all fun b=>(digitVal b).isSome)=true:=by rw [←Dh l 0,h];rfl
 have h1:∀ x:List UInt8,(∀ b∈x,b∈l)→∃ m,decFrom 0 x=some m:=fun x hx=>by
  refine Option.isSome_iff_exists.1 ?_;rw [Dh,List.all_eq_true];exact fun b hb=>List.all_eq_true.1 hall b (hx b hb)
 obtain ⟨m,hm⟩:=h1 (l.take j) fun b hb=>List.mem_of_mem_take hb;obtain ⟨p,hp⟩:=h1 ((l.drop j).take k) fun b hb=>List.mem_of_mem_drop (List.mem_of_mem_take hb);have hlen:((l.drop j).take k).length=k:=by rw [List.length_take,List.length_drop];omega
 refine ⟨m,p,hm,hp,?_,?_⟩
 ·have:=decFrom_lt _ _ _ hp
  rw [hlen] at this;simpa using this
 ·rw [List.take_add]
  have h2:∀ (x y:List UInt8) (a b:Nat),decFrom a x=some b→decFrom a (x++y)=decFrom b y:=by
   intro x
   induction x with
   | nil=>intro y a b hb;simp only [decFrom,Option.some.injEq] at hb;subst hb;rfl
   | cons c r ih=>
    intro y a b hb;rw [List.cons_append];show (match digitVal c with|some d=>decFrom (a*10+d) (r++y)|none=>none)=_
    have hb:(match digitVal c with|some d=>decFrom (a*10+d) r|none=>none)=some b:=hb;cases hd:digitVal c with
    | none=>rw [hd] at hb;cases hb
    | some d=>
     rw [hd] at hb;exact ih y _ b hb
  rw [h2 _ _ _ _ hm,Hi _ m p hp,hlen]
theorem Ym (B u v c x y z p:Nat)(h5:u+B*c=v*1000000000+p)(e:4294967296*z+y=c+x*1000000000):u+B*y+B*4294967296*z=(v+B*x)*1000000000+p:=by
 have h:B*(4294967296*z+y)=B*(c+x*1000000000):=by rw [e]
 rw [Nat.mul_add,Nat.mul_add] at h;rw [Nat.add_mul,Nat.mul_assoc B 4294967296 z,Nat.mul_assoc B x 1000000000];generalize B*(4294967296*z)=s at *;generalize B*(x*1000000000)=t at *;generalize B*y=r at *;generalize B*c=q at *;omega
theorem Ack {c x:Nat}(hc:c≤1000000000)(hx:x<4294967296):(c+x*1000000000)/4294967296≤1000000000:=by
 rw [Nat.div_le_iff_le_mul_add_pred (by omega)];omega
def MuQ (q:List Nat)(p:Nat)(cur:List Nat)(k c:Nat):Prop:=cur.length=q.length∧OkL cur∧c≤1000000000∧cur.drop k=q.drop k∧val (cur.take k)+4294967296 ^ k*c=val (q.take k)*1000000000+p
theorem Yp {q:List Nat}{p:Nat}(h:OkL q)(hp:p≤1000000000):MuQ q p q 0 p:=⟨rfl,h,hp,rfl,by simp [val]⟩
theorem Yo {q cur:List Nat}{p k c y z:Nat}(h:MuQ q p cur k c)(hk:k<q.length)(hy:y<4294967296)(hz:z≤1000000000)(e:4294967296*z+y=c+q.getD k 0*1000000000):MuQ q p (cur.set k y) (k+1) z:=by
 obtain ⟨h1,h2,h3,h4,h5⟩:=h;have hkc:k<cur.length:=by rw [h1];exact hk
 have hks:k<(cur.set k y).length:=by rw [List.length_set];exact hkc
 refine ⟨by rw [List.length_set];exact h1,Cn h2 hy,hz,?_,?_⟩
 ·rw [List.drop_set_of_lt (Nat.lt_succ_self k)]
  have:=congrArg (List.drop 1) h4
  rwa [List.drop_drop,List.drop_drop] at this
 ·have e2:(cur.set k y).getD k 0=y:=by
   rw [List.getD_eq_getElem?_getD,List.getElem?_set_self hkc];rfl
  rw [Ao _ k hks,Ao _ k hk,List.take_set_of_le (nR _),e2,Nat.pow_succ];generalize q.getD k 0=x at *;generalize val (cur.take k)=u at *;generalize val (q.take k)=v at *;generalize 4294967296 ^ k=B at *;exact Ym B u v c x y z p h5 e
theorem Abj {q cur:List Nat}{p k c:Nat}(h:MuQ q p cur k c)(hk:k<q.length)(hq:OkL q) :
  MuQ q p (cur.set k ((c+q.getD k 0*1000000000)%4294967296)) (k+1) ((c+q.getD k 0*1000000000)/4294967296):=
 Yo h hk (Nat.mod_lt _ (Nat.succ_pos _)) (Ack h.2.2.1 (As hq k)) (Nat.div_add_mod _ _)
theorem Adn {q cur:List Nat}{p c:Nat}(h:MuQ q p cur q.length c):OkL (cur++[c])∧val (cur++[c])=val q*1000000000+p:=by
 obtain ⟨h1,h2,h3,-,h5⟩:=h;refine ⟨okL_append.2 ⟨h2,fun x hx=>by rw [List.mem_singleton.1 hx];omega⟩,?_⟩;rw [Dt,h1,show val [c]=c by simp [val]];rw [List.take_length,←h1,List.take_length] at h5;rw [←h5,h1]
theorem Age {q r j k:Nat}(h:j<k):dg (q*10 ^ k+r) j=dg r j:=by
 have e:q*10 ^ k=10 ^ j*(q*10 ^ (k-j-1)*10):=by
  have:10 ^ k=10 ^ j*(10 ^ (k-j-1)*10):=by
   rw [←Nat.pow_succ,←Nat.pow_add];congr 1;omega
  rw [this]
  grind
 have hd:(q*10 ^ k+r)/10 ^ j%10=r/10 ^ j%10:=by
  rw [e,Nat.mul_add_div (Nat.pow_pos (by omega)),Nat.mul_add_mod']
 unfold dg;rw [hd]
theorem Aee {q r i k:Nat}(h:r<10 ^ k):dg (q*10 ^ k+r) (k+i)=dg q i:=by
 have hd:(q*10 ^ k+r)/10 ^ k=q:=by
  rw [Nat.mul_comm,Nat.mul_add_div (Nat.pow_pos (by omega)),Nat.div_eq_of_lt h,Nat.add_zero]
 unfold dg;rw [Nat.pow_add,←Nat.div_div_eq_div_mul,hd]
theorem Cd (q:Nat)(h:0<q):10 ^ (nDigits q-1)≤q:=by
 induction q using Nat.strongRecOn with
 | _ q ih=>
  by_cases h1:q<10
  ·rw [nDigits_small h1]
   exact h
  ·have:=ih (q/10) (by omega) (by omega)
   have hp:=nDigits_pos (q/10);rw [nDigits_big h1,show nDigits (q/10)+1-1=(nDigits (q/10)-1)+1 by omega,Nat.pow_succ];omega
theorem Mw {q r:Nat}(hq:0<q):∀ k,r<10 ^ k→nDigits (q*10 ^ k+r)=nDigits q+k:=by
 intro k hr;have h1:=lt_pow_nDigits q;have hp:=nDigits_pos q;have h2:=Cd q hq;have e:nDigits q+k=(nDigits q+k-1)+1:=by omega
 rw [e];refine nDigits_unique _ _ ?_ ?_
 ·rw [show nDigits q+k-1=nDigits q-1+k by omega,Nat.pow_add]
  exact nT (Nat.mul_le_mul_right _ h2) (Nat.le_add_right _ _)
 ·rw [show nDigits q+k-1+1=nDigits q+k by omega,Nat.pow_add]
  calc q*10 ^ k+r<q*10 ^ k+10 ^ k:=by omega
   _=(q+1)*10 ^ k:=by rw [Nat.add_mul,Nat.one_mul]
   _≤10 ^ nDigits q*10 ^ k:=Nat.mul_le_mul_right _ h1
def nine (r:Nat):List UInt8:=(List.range 9).map fun t=>dg r (8-t)
theorem Acc {q r:Nat}(hq:0<q)(hr:r<1000000000):decDigits (q*1000000000+r)=decDigits q++nine r:=by
 have hr':r<10 ^ 9:=hr;rw [decDigits_eq,show q*1000000000+r=q*10 ^ 9+r from rfl,Mw hq 9 hr',List.range_add,List.map_append,decDigits_eq q];congr 1
 ·refine List.map_congr_left fun t ht=>?_
  have:=List.mem_range.1 ht;rw [show nDigits q+9-1-t=9+(nDigits q-1-t) by omega,Aee hr']
 ·unfold nine
  rw [List.map_map];refine List.map_congr_left fun t ht=>?_;have:=List.mem_range.1 ht;show dg _ (nDigits q+9-1-(nDigits q+t))=_
  rw [show nDigits q+9-1-(nDigits q+t)=8-t by omega,Age (by omega)]
def val9:List Nat→Nat
 | []=>0
 | p::r=>p+1000000000*val9 r
def txt9:List Nat→List UInt8
 | []=>[]
 | [p]=>decDigits p
 | p::q::r=>txt9 (q::r)++nine p
theorem Nc (r:Nat):∀ ps:List Nat,val9 (ps++[r])=val9 ps+1000000000 ^ ps.length*r
 | []=>by simp [val9]
 | p::ps=>by
  have ih:=Nc r ps
  simp only [List.cons_append,val9,ih,List.length_cons,Nat.pow_succ]
  grind
theorem Qh:∀ ps:List Nat,0<ps.getLastD 0→0<val9 ps
 | [],h=>by simp at h
 | [p],h=>by simpa [val9] using h
 | p::q::r,h=>by
  have:=Qh (q::r) (by simpa using h)
  unfold val9
  omega
theorem Gu:∀ ps:List Nat,ps≠[]→(∀ p∈ps,p<1000000000)→(ps.length=1∨0<ps.getLastD 0)→txt9 ps=decDigits (val9 ps)
 | [],h,_,_=>absurd rfl h
 | [p],_,_,_=>by simp [txt9,val9]
 | p::q::r,_,hp,hl=>by
  have hl':0<(q::r).getLastD 0:=by
   rcases hl with h|h
   ·simp at h
   ·simpa using h
  have ih:=Gu (q::r) (by simp) (fun x hx=>hp x (by simp [hx])) (.inr hl');have hv:=Qh (q::r) hl';rw [txt9,ih,show val9 (p::q::r)=val9 (q::r)*1000000000+p by rw [val9,Nat.mul_comm,Nat.add_comm],Acc hv (hp p (by simp))]
theorem Nd (p:Nat){ps:List Nat}(h:ps≠[]):txt9 (p::ps)=txt9 ps++nine p:=by
 cases ps with
 | nil=>exact absurd rfl h
 | cons q r=>rfl
theorem Wc {p:Nat}(hp:p<1000000000):nine p=List.replicate (9-nDigits p) 48++decDigits p:=by
 have h9:nDigits p≤9:=by
  rcases Nat.lt_or_ge 9 (nDigits p) with h|h
  ·rcases Nat.eq_zero_or_pos p with h0|h0
   ·subst h0
    rw [nDigits_small (by omega)] at h;omega
   ·have h1:=Cd p h0
    have h2:10 ^ 9≤10 ^ (nDigits p-1):=Nat.pow_le_pow_right (by omega) (by omega);omega
  ·exact h
 unfold nine;rw [decDigits_eq,show (9:Nat)=(9-nDigits p)+nDigits p by omega,List.range_add,List.map_append,List.map_map];congr 1
 ·rw [show (9-nDigits p)+nDigits p-nDigits p=9-nDigits p by omega]
  refine List.ext_getElem (by simp) fun i h1 h2=>?_;simp only [List.getElem_map,List.getElem_range,List.getElem_replicate];have hi:i<9-nDigits p:=by simpa using h1
  unfold dg;rw [Nat.div_eq_of_lt (Nat.lt_of_lt_of_le (lt_pow_nDigits p) (Nat.pow_le_pow_right (by omega) (by omega)))];rfl
 ·refine List.map_congr_left fun t ht=>?_
  have:=List.mem_range.1 ht;show dg p (8-(9-nDigits p+t))=_
  rw [show 8-(9-nDigits p+t)=nDigits p-1-t by omega]
theorem Ace (n:Nat)(h:0<n):∃ x r,decDigits n=x::r∧x≠48:=by
 induction n using Nat.strongRecOn with
 | _ n ih=>
  by_cases h10:n<10
  ·refine ⟨UInt8.ofNat (48+n),[],by rw [decDigits,dif_pos h10],fun e=>?_⟩
   have:=congrArg UInt8.toNat e;simp at this;omega
  ·obtain ⟨x,r,e,hx⟩:=ih (n/10) (by omega) (by omega)
   rw [decDigits,dif_neg h10,e];exact ⟨x,_,rfl,hx⟩
end Go.Proofs.YtlknpnommcohkaaGreatDoor
namespace Go.Proofs.YtlknpnommcohkaaGreatDoor
set_option maxRecDepth 100000
open Go Go.RowKit Go.Proofs
theorem Mc (w:World)(cs:List Value)(T:TypeId):∀ j u,cs[j]? = some u→(w.alloc (.cells cs.toArray T)).cell? (Addr.add ⟨w.heap.size,0,none⟩ j)=some u:=by
 intro j u hj;have h:(w.alloc (.cells cs.toArray T)).heap[w.heap.size]? = some (.cells cs.toArray T (0,0)):=heap_alloc_new _ _
 have e:(Addr.add ⟨w.heap.size,0,none⟩ j)=⟨w.heap.size,j,none⟩:=by
  unfold Addr.add;by_cases h0:j=0
  ·subst h0;rfl
  ·simp [h0]
 rw [e];have:=Al h j;rw [this];simpa using hj
def cS (a b:Rat):Int:=(a.num*b.den-b.num*a.den).sign
theorem sizeBuilder:(Tryz.prog.info? 64).map (·.size)=some 2:=by kernel_rfl
theorem liesBuilder:liesAt Tryz.prog Tryz.prog.depth 64 (2/Tryz.prog.cellsOf 64) 0 64 1=true:=by kernel_rfl
theorem infoByte:(Tryz.prog.info? 5).map (fun i=>(i.zero,i.size,i.bytes))=some (some (.int .u8 0),1,1):=by kernel_rfl
theorem Ku (b:Nat)(w:World)(h0:w.cell? ⟨b,0,none⟩=some (.pointer (some ⟨b,0,none⟩))) :
  Calls Tryz.prog 119 #[.pointer (some ⟨b,0,none⟩)] w fun e w'=>e=.returned (.tuple #[])∧w'=w:=by
 obtain ⟨j,hj,_⟩:=Option.map_eq_some_iff.1 sizeBuilder;go_enter Tryz.func119,Tryz.ntmps119;go_wp2;rw [Lib.run_neq_ptr_same w _ Tryz.underlying61 hj];go_wp2;go_end0;exact ⟨rfl,rfl⟩
theorem Qc (b:Nat)(w:World)(h0:w.cell? ⟨b,0,none⟩=some (.pointer none))(hsh:w.shape? b=some (64,2))(hfz:w.frozen? ⟨b,0,none⟩=false) :
  Calls Tryz.prog 119 #[.pointer (some ⟨b,0,none⟩)] w fun e w'=>e=.returned (.tuple #[])∧w'=w.setCell ⟨b,0,none⟩ (.pointer (some ⟨b,0,none⟩)):=by
 obtain ⟨j,hj,hjs⟩:=Option.map_eq_some_iff.1 sizeBuilder;go_enter Tryz.func119,Tryz.ntmps119;go_wp2;rw [Lib.run_to_unsafe w ⟨b,0,none⟩ Tryz.underlying61 Tryz.underlying186 hj (by rw [hjs];decide) hsh (Nat.zero_lt_succ 1)];simp only [Result.andThen];rw [Oper.upon_value];go_wp2;rw [run_callFunc_extern Tryz.func174 (by kernel_rfl) (by kernel_rfl) (by kernel_rfl) (e:=Extern.AbiNoEscape.same) (by kernel_rfl)];rw [Lib.run_noEscape];simp only [Result.andThen];rw [Oper.upon_value];go_wp2;rw [Lib.run_from_unsafe w ⟨b,0,none⟩ Tryz.underlying186 Tryz.underlying61 hj hsh liesBuilder];simp only [Result.andThen];rw [Oper.upon_value];go_wp2;go_end0;exact ⟨rfl,rfl⟩
theorem Sp (B b:Nat)(bs:List Value)(w:World)(h:Lib.IsBuilder 64 5 B b bs w) :
  Calls Tryz.prog 119 #[.pointer (some ⟨b,0,none⟩)] w fun e w'=>e=.returned (.tuple #[])∧(Lib.BuilderAt 64 5 B b (.pointer (some ⟨b,0,none⟩)) bs w'∧Below B w w'):=by
 rcases h with h|h
 ·refine (Qc b w h.cell0 h.shape h.frozen0).mono ?_
  rintro e w' ⟨rfl,rfl⟩;exact ⟨rfl,h.used _,(Below.refl B w).setCell (p:=⟨b,0,none⟩) h.1 _⟩
 ·refine (Ku b w h.cell0).mono ?_
  rintro e w' ⟨rfl,rfl⟩;exact ⟨rfl,h,Below.refl B _⟩
theorem Ge (B b:Nat)(bs:List Value)(s:ByteArray)(w:World)(h:Lib.IsBuilder 64 5 B b bs w)(hlen:bs.length+s.size≤140737488355328)(hBw:B≤w.heap.size) :
  Calls Tryz.prog 69 #[.pointer (some ⟨b,0,none⟩),.string s] w fun e w'=>e=.returned (.tuple #[.int .i64 s.size,.nilIface])∧(Lib.BuilderAt 64 5 B b (.pointer (some ⟨b,0,none⟩)) (bs++Lib.strCells s) w'∧Below B w w'):=by
 obtain ⟨i0,hi,hz0,hz1,hz2⟩:=info_parts infoByte;go_enter Tryz.func69,Tryz.ntmps69;go_wp2_with (go_at_call 119;refine (Sp B b bs _ h).mono ?_);rintro e w1 ⟨rfl,h1,hb1⟩;obtain ⟨hB,v,hbk,hown,hne⟩:=h1;have c0:w1.cell? ⟨b,0,none⟩=some (.pointer (some ⟨b,0,none⟩)):=by rw [Lib.cell_of_heap hbk];rfl
 have c1:w1.cell? ⟨b,1,none⟩=some v:=by rw [Lib.cell_of_heap hbk];rfl
 go_wp2_with (at_builtin;refine Lib.wpList_append_own_string _ rfl _ _ 62 9 rfl B 5 i0 Tryz.underlying62 Tryz.underlying9 hi hz0 hz1 hz2 _ _ _ rfl hown s rfl ?c3 ?c4 ?c5 ?_)
 case c3=>unfold maxLen;omega
 case c4=>omega
 case c5=>have:=hb1.size;omega
 intro v' w2 hown' hgrow _
 have hlt:b<w1.heap.size:=by
  rcases Nat.lt_or_ge b w1.heap.size with h'|h'
  ·exact h'
  ·simp [Array.getElem?_eq_none h'] at hbk
 have hb2:w2.heap[b]? = some (.cells #[.pointer (some ⟨b,0,none⟩),v] 64 (0,0)):=by
  rw [hgrow.block b hlt (fun e=>hne e.symm)];exact hbk
 have d0:w2.cell? ⟨b,0,none⟩=some (.pointer (some ⟨b,0,none⟩)):=by rw [Lib.cell_of_heap hb2];rfl
 have d1:w2.cell? ⟨b,1,none⟩=some v:=by rw [Lib.cell_of_heap hb2];rfl
 have f1:w2.frozen? ⟨b,1,none⟩=false:=Lib.frozen_of_heap hb2 1
 obtain ⟨ao,n',cap,rfl⟩:∃ ao n' cap,v'=.slice ao n' cap:=by
  rcases hown'.2 with ⟨hv,_⟩|⟨g,cap,cur,hv,_⟩
  ·exact ⟨_,_,_,hv⟩
  ·exact ⟨_,_,_,hv⟩
 go_wp2;go_ret2;refine ⟨rfl,?_,?_⟩
 ·exact Lib.BuilderAt.put (T:=64) (e:=5) hB hb2 (bs':=bs++Lib.strCells s) (by simpa [Lib.strCells_length] using hown') (by decide)
 ·exact (hb1.grown hgrow (by have:=hb1.size;omega) (fun k hk=>(hown.lt k hk).1)).setCell (p:=⟨b,1,none⟩) hB _
theorem Aen (B b:Nat)(bs:List Value)(c:Int)(w:World)(h:Lib.IsBuilder 64 5 B b bs w)(hlen:bs.length+1≤140737488355328)(hBw:B≤w.heap.size) :
  Calls Tryz.prog 68 #[.pointer (some ⟨b,0,none⟩),.int .u8 c] w fun e w'=>e=.returned .nilIface∧(Lib.BuilderAt 64 5 B b (.pointer (some ⟨b,0,none⟩)) (bs++[.int .u8 c]) w'∧Below B w w'):=by
 obtain ⟨i0,hi,hz0,hz1,hz2⟩:=info_parts infoByte;go_enter Tryz.func68,Tryz.ntmps68;go_wp2_with (go_at_call 119;refine (Sp B b bs _ h).mono ?_);rintro e w1 ⟨rfl,h1,hb1⟩;obtain ⟨hB,v,hbk,hown,hne⟩:=h1;have c0:w1.cell? ⟨b,0,none⟩=some (.pointer (some ⟨b,0,none⟩)):=by rw [Lib.cell_of_heap hbk];rfl
 have c1:w1.cell? ⟨b,1,none⟩=some v:=by rw [Lib.cell_of_heap hbk];rfl
 go_wp2_with (at_builtin;refine wpList_append_own _ rfl _ _ 62 rfl B 5 i0 (.int .u8 0) 1 1 Tryz.underlying62 hi hz0 hz1 hz2 rfl (by decide) _ _ _ rfl (hown.alloc _) ⟨w1.heap.size,0,none⟩ 1 1 [.int .u8 c] rfl rfl ?c1 ?c2 ?c3 ?c4 ?c5 ?_)
 case c1=>
  intro j u hj
  match j,hj with
  | 0,hj=>simp at hj;subst hj;simp [Addr.add]
 case c2=>intro u hu;simp at hu;subst hu;rfl
 case c3=>unfold maxLen;omega
 case c4=>omega
 case c5=>have:=hb1.size;simp;omega
 intro v' w2 hown' hgrow _
 have hlt:b<w1.heap.size:=by
  rcases Nat.lt_or_ge b w1.heap.size with h'|h'
  ·exact h'
  ·simp [Array.getElem?_eq_none h'] at hbk
 have hb2:w2.heap[b]? = some (.cells #[.pointer (some ⟨b,0,none⟩),v] 64 (0,0)):=by
  rw [hgrow.block b (by simp;omega) (fun e=>hne e.symm),Lib.alloc_old w1 _ b hlt];exact hbk
 have d0:w2.cell? ⟨b,0,none⟩=some (.pointer (some ⟨b,0,none⟩)):=by rw [Lib.cell_of_heap hb2];rfl
 have d1:w2.cell? ⟨b,1,none⟩=some v:=by rw [Lib.cell_of_heap hb2];rfl
 have f1:w2.frozen? ⟨b,1,none⟩=false:=Lib.frozen_of_heap hb2 1
 obtain ⟨g,cap,rfl⟩:∃ g cap,v'=.slice (some ⟨g,0,none⟩) (bs.length+1) cap:=by
  rcases hown'.2 with ⟨_,h0⟩|⟨g,cap,cur,hv,_⟩
  ·omega
  ·exact ⟨g,cap,hv⟩
 go_wp2;go_ret;refine ⟨rfl,?_,?_⟩
 ·exact Lib.BuilderAt.put (T:=64) (e:=5) hB hb2 (bs':=bs++[.int .u8 c]) (by simpa using hown') (by decide)
 ·exact ((hb1.alloc (by have:=hb1.size;omega) _).grown hgrow (by have:=hb1.size;simp;omega) (fun k hk=>(hown.lt k hk).1)).setCell (p:=⟨b,1,none⟩) hB _
end Go.Proofs.YtlknpnommcohkaaGreatDoor
namespace Go.Proofs.YtlknpnommcohkaaGreatDoor
set_option maxRecDepth 100000
open Go Go.RowKit Go.Proofs Go.Lib
theorem In {w w':World}{nm:String}{k:IntKind}{zs:List Int}(h:Lib.TabIs Tryz.prog w nm k zs)(e:Ext w w'):Lib.TabIs Tryz.prog w' nm k zs:=by
 unfold Lib.TabIs World.var? at *;cases hg:Tryz.prog.globalNamed nm with
 | none=>rw [hg] at h;cases h
 | some g=>
  rw [hg] at h;simp only [Option.bind_some] at h ⊢;cases hb:w.heap[g]? with
  | none=>rw [hb] at h;cases h
  | some o=>rw [e.blk hb];rw [hb] at h;exact h
theorem Uo:(Tryz.prog.info? 9).map (fun i=>(i.zero,i.size,i.bytes))=some (some (.string ⟨#[]⟩),1,16):=by kernel_rfl
abbrev Tab10 (w:World):Prop:=Lib.TabIs Tryz.prog w "internal/strconv.uint64pow10" .u64 Lib.pow10Tab
theorem Af6 (n:Nat)(w:World)(hn:n<4294967296)(ht:Tab10 w) :
  Calls Tryz.prog 26 #[.int .i64 n] w fun e w'=>e=.returned (.string ⟨(decDigits n).toArray⟩)∧Ext w w':=by
 refine (Tryz.strconv_Itoa n (by omega) (by omega) w ht).mono fun e w' h=>?_;obtain ⟨rfl,k,os,rfl⟩:=h;refine ⟨by unfold itoa;rw [if_neg (by omega)];rfl,?_⟩;exact ⟨rfl,rfl,rfl,by simp [Go.Sort.grow,World.drewN],fun j hj=>by simp [Go.Sort.grow,World.drewN,Array.getElem?_append,hj]⟩
def Xa (w:World)(base:Nat)(v:Value)(ss:List (List UInt8)):Prop:=w.ownsRow base 9 1 v ss.length (ss.map fun s=>.string ⟨s.toArray⟩)
def Dig1 (w0:World)(base X k:Nat)(v3 v4:Value)(wr:World):Prop:=
 ∃ ps:List Nat,X=val9 ps+1000000000 ^ ps.length*k∧(∀ p∈ps,p<1000000000)∧(k=0→ps≠[]→0<ps.getLastD 0)∧Xa wr base v3 (ps.map decDigits)∧MagO wr base v4 (lim k) ∧
  (∀ g,v4.ownBlock=some g→v3.ownBlock≠some g)∧(lim k).length≤65536∧ps.length≤131073∧Ext w0 wr
theorem Ch {w wr w5:World}(h:Ext w wr)(hb:Below w.heap.size wr w5):Ext w w5:=by
 obtain ⟨a1,a2,a3,a4,a5⟩:=h;exact ⟨hb.os.trans a1,hb.tape.trans a2,hb.output.trans a3,nT a4 hb.size,fun j hj=>(hb.block j hj).trans (a5 j hj)⟩
theorem Kz {w:World}{b o:Nat}{ps:List Nat}(h:Row w (some ⟨b,o,none⟩) ((ps.map decDigits).map fun s=>Value.string ⟨s.toArray⟩))(j:Nat)(hj:j<ps.length) :
  w.cell? ⟨b,o+j,none⟩=some (.string ⟨(decDigits (ps.getD j 0)).toArray⟩):=by
 obtain ⟨b',o',e,hc⟩:=h;have e:=e (by intro e;simp at e;simp [e] at hj);cases e;rw [hc j (by simpa using hj)];congr 1;rw [List.getD_eq_getElem?_getD,List.getD_eq_getElem?_getD];simp [hj]
theorem Gk {p:Nat}(hp:p<1000000000):nDigits p≤9:=by
 rcases Nat.lt_or_ge 9 (nDigits p) with h|h
 ·rcases Nat.eq_zero_or_pos p with h0|h0
  ·subst h0
   rw [nDigits_small (by omega)] at h;omega
  ·have h1:=Cd p h0
   have h2:10 ^ 9≤10 ^ (nDigits p-1):=Nat.pow_le_pow_right (by omega) (by omega);omega
 ·exact h
theorem Ew (p:Nat):(decDigits p).length=nDigits p:=by rw [decDigits_eq];simp
theorem Lk:∀ ps:List Nat,(∀ p∈ps,p<1000000000)→(txt9 ps).length≤9*ps.length
 | [],_=>by simp [txt9]
 | [p],h=>by
  have:=Gk (h p (by simp))
  rw [txt9,Ew]
  simpa using this
 | p::q::r,h=>by
  have ih:=Lk (q::r) (fun x hx=>h x (by simp [hx]))
  rw [txt9,List.length_append]
  have:(nine p).length=9:=by simp [nine]
  simp only [List.length_cons] at ih ⊢
  omega
theorem Iu (l:List UInt8):(⟨l.toArray⟩:ByteArray).size=l.length:=by simp [ByteArray.size]
theorem zeros9 (n:Nat)(hn:n≤9):Lib.strCells ((⟨#[48,48,48,48,48,48,48,48,48]⟩:ByteArray).extract n 9)=Lib.byteCells (List.replicate (9-n) 48):=by
 have:n=0∨n=1∨n=2∨n=3∨n=4∨n=5∨n=6∨n=7∨n=8∨n=9:=by omega
 rcases this with rfl|rfl|rfl|rfl|rfl|rfl|rfl|rfl|rfl|rfl<;>rfl
def Dig2 (w3:World)(sgn:List UInt8)(ps:List Nat)(k:Nat)(v6:Value)(wr:World):Prop:=
 v6=.int .i64 ((k:Int)-1)∧k≤ps.length∧Lib.IsBuilder 64 5 w3.heap.size w3.heap.size (Lib.byteCells (sgn++txt9 (ps.drop k))) wr∧Ext w3 wr
theorem Rj {X N k m:Nat}{a:Nat}(h:X=a+1000000000 ^ m*k)(hk:0<k)(hX:X<2 ^ (32*N)):m≤2*N:=by
 have h1:2 ^ (29*m)≤1000000000 ^ m:=by
  rw [Nat.pow_mul];exact Nat.pow_le_pow_left (by decide) m
 have h2:1000000000 ^ m≤X:=by
  rw [h];exact nT (Nat.le_mul_of_pos_right _ hk) (Nat.le_add_left _ _)
 have h3:2 ^ (29*m)<2 ^ (32*N):=Nat.lt_of_le_of_lt (nT h1 h2) hX;have:=(Nat.pow_lt_pow_iff_right (by decide:1<2)).1 h3;omega
theorem Sj (v:Value)(X:Int)(w:World)(hX:nl X≤65536)(h:IntR w v X)(ht:Tab10 w) :
  Calls Tryz.prog 123 #[v] w fun e w'=>e=.returned (.string ⟨(itoa X).toArray⟩)∧Ext w w':=by
 obtain ⟨i0,hi,hz0,hz1,hz2⟩:=info_parts Uo;obtain ⟨s,rfl,a,c,rfl,hcap,hrow⟩:=h;obtain ⟨bx,hbx⟩:=nmE (decide (X<0));rw [←hbx];obtain ⟨w1,hw1⟩:=nmE (w.alloc (.cells #[.bool bx,.slice a (lim X.natAbs).length c] 26));have hE1:=aLe1 hw1;have z0:=aL10 hw1;have hlen:(lim X.natAbs).length≤65536:=hX;have CL:=mK (Jl a (lim X.natAbs) c w1 (by omega) (hrow.ext hE1))
 have hXb:X.natAbs<2 ^ (32*(lim X.natAbs).length):=by
  have:=Cs (By X.natAbs);rw [Bn,show (4294967296:Nat)=2 ^ 32 from rfl,←Nat.pow_mul] at this;exact this
 have HT:=mK (fun W (e:Ext w W)=>In ht e);replace hbx:=mK hbx;replace hw1:=mK hw1;replace z0:=mK z0;replace hE1:=mK hE1;replace hXb:=mK hXb;clear hrow hcap ht hX;generalize hXX:X.natAbs=N at *;replace hXX:=mK hXX;replace hlen:=mK hlen;go_enter Tryz.func123,Tryz.ntmps123;go_wp2_with (go_at_call 181;rw [←hw1.out];refine CL.out.mono ?_;rintro e w2 ⟨v4,rfl,hv4,hx⟩;replace hv4:=mK hv4;replace hx:=mK hx);have st:Hid (Dig1 w1 w1.heap.size N N (.slice none 0 0) v4 w2):=⟨[],by simp [val9],by simp,fun _ h=>absurd rfl h,World.ownsRow_nil _ _ _ _,hv4.out,(fun g _ e=>by cases e),hlen.out,by simp,hx.out⟩
 clear hv4 hx CL;go_loopg [3,4] N (fun k v3 v4 wr=>Dig1 w1 w1.heap.size N k v3 v4 wr)
 case atStart=>exact st.out
 case round=>
  clear st;obtain ⟨ps,hsum,hps,hlast,h3,h4,hne,hl,hpn,hEr⟩:=hrel;obtain ⟨w3,rfl⟩:=nmE (wr:World);by_cases hk0:gk=0
  ·subst hk0
   have hv:N=val9 ps:=by rw [hsum];simp
   obtain ⟨a4,c4,rfl⟩:∃ a4 c4,u4=.slice a4 0 c4:=by
    rcases h4.2 with ⟨e,_⟩|⟨g,cap,cur,e,_⟩
    ·exact ⟨_,_,e⟩
    ·exact ⟨_,_,by rw [e,Az];rfl⟩
   obtain ⟨a3,c3,rfl⟩:∃ a3 c3,u3=.slice a3 ps.length c3:=by
    rcases h3.2 with ⟨e,h⟩|⟨g,cap,cur,e,_⟩
    ·refine ⟨none,0,?_⟩
     rw [e];have:ps.length=0:=by simpa using h
     rw [this]
    ·exact ⟨some ⟨g,0,none⟩,cap,by rw [e,List.length_map]⟩
   obtain ⟨hc3,hr3⟩:ps.length≤c3∧Row w3 a3 ((ps.map decDigits).map fun s=>Value.string ⟨s.toArray⟩):=by
    obtain ⟨_,_,e3,hc3,hr3⟩:=Dw h3;rw [List.length_map] at e3 hc3;cases e3;exact ⟨hc3,hr3⟩
   replace hr3:=mK hr3;replace hlast:=mK hlast;replace hpn:=mK hpn;replace hps:=mK hps;replace hEr:=mK hEr;replace hv:=mK hv;clear h3 h4 hne hl hsum;by_cases hp0:ps=[]
   ·subst hp0
    go_wp2_with fail
    have hX0:X=0:=by
     have h1:=hXX.out;have h2:=hv.out;simp [val9] at h2;omega
    subst hX0
    have h48:itoa 0=[48]:=by
     unfold itoa;rw [if_neg (by omega),show ((0:Int).toNat)=0 from rfl,decDigits_eq,nDigits_small (by omega)];rfl
    rw [h48];exact ⟨rfl,.string ⟨#[48]⟩,by simp [results],rfl,hE1.out.trans hEr.out⟩
   ·have hpl:0<ps.length:=List.length_pos_iff.2 hp0
    obtain ⟨b3,o3,rfl⟩:∃ b o,a3=some ⟨b,o,none⟩:=by
     obtain ⟨b,o,e,_⟩:=hr3.out;exact ⟨b,o,e (by simpa using hp0)⟩
    have c0:∀ o,(w3.alloc o).cell? ⟨w.heap.size,0,none⟩=some (.bool bx):=fun o=>by rw [Lib.cell_of_heap (((xR w3).al o).blk (hEr.out.blk z0.out))];rfl
    generalize hln:ps.length=ln at *;replace hln:=mK hln;have hB:=mK (Lib.fresh_isBuilder 64 5 w3)
    have hwr:IntKind.i64.wrap ((ln:Int)-1)=(ln:Int)-1:=by
     have:=hpn.out;have:=hln.out;rw [IntKind.wrap_i64];omega
    obtain ⟨wb,hwb⟩:=nmE (w3.alloc (.cells #[.pointer none,.slice none 0 0] 64));cases bx
    ·go_wp2_with fail
     obtain ⟨sgn,hsg⟩:=nmE ([]:List UInt8)
     have hit:sgn++txt9 ps=itoa X:=by
      have h1:=hbx.out;have h2:=hXX.out;rw [hsg,Gu ps hp0 hps.out (.inr (hlast.out trivial hp0)),←hv.out];unfold itoa;rw [if_neg (by simpa using h1),List.nil_append,←h2,show X.natAbs=X.toNat from (by have:¬X<0:=(by simpa using h1);omega)]
     have hit0:sgn++txt9 ps≠[]:=by
      rw [hsg,Gu ps hp0 hps.out (.inr (hlast.out trivial hp0)),decDigits_eq];intro e;have:=congrArg List.length e;simp at this;have:=nDigits_pos (val9 ps);omega
     replace hit:=mK hit;replace hit0:=mK hit0;have st:Hid (Dig2 w3 sgn ps ln (.int .i64 ((ln:Int)-1)) (w3.alloc (.cells #[.pointer none,.slice none 0 0] 64))):=⟨rfl,by rw [hln.out];exact nR _,by rw [hsg,←hln.out,List.drop_length];exact hB.out,(xR w3).al _⟩
     replace hsg:=mK hsg;go_loopg [6] ln (fun k v6 wr=>Dig2 w3 sgn ps k v6 wr)
     case atStart=>exact st.out
     case round=>
      obtain ⟨e6,hk,hb,hx⟩:=hrel;clear st c0 hB;by_cases hk0:gk=0
      ·subst hk0
       subst e6;rw [List.drop_zero] at hb;have BS:=mK (Tryz.Builder_String w3.heap.size w3.heap.size _ wr hb hit0.out);go_wp2_with (go_at_call 30;refine BS.out.mono ?_;rintro e w5 ⟨rfl,hB5⟩);rw [hit.out];exact ⟨rfl,.string ⟨(itoa X).toArray⟩,by simp [results],rfl,(hE1.out.trans hEr.out).trans (Ch hx hB5)⟩
      ·obtain ⟨i,rfl⟩:∃ i,gk=i+1:=⟨gk-1,by omega⟩
       rw [show ((i+1:Nat):Int)-1=(i:Int) by omega] at e6;subst e6;have hrw:=hr3.out.ext hx;have hci:=Kz hrw i hk;have hip:i<ln:=by have:=hln.out;omega
       obtain ⟨p,hp⟩:=nmE (ps.getD i 0);rw [←hp] at hci
       have hdr:ps.drop i=p::ps.drop (i+1):=by
        rw [hp,List.drop_eq_getElem_cons hk,List.getD_eq_getElem?_getD,List.getElem?_eq_getElem hk];rfl
       have hp9:p<1000000000:=hps.out p (List.mem_of_mem_drop (i:=i) (by rw [hdr];simp));have hn9:=Gk hp9;have htl:=Lk (ps.drop (i+1)) (fun x hx=>hps.out x (List.mem_of_mem_drop hx))
       have hwi:IntKind.i64.wrap ((i:Int)-1)=(i:Int)-1:=by
        have:=hpn.out;have:=hln.out;rw [IntKind.wrap_i64];omega
       have hsl:sgn.length≤1:=by rw [hsg.out];simp
       have hbl:(Lib.byteCells (sgn++txt9 (ps.drop (i+1)))).length≤2000000:=by
        have:=hpn.out;have:=hln.out;rw [Lib.byteCells_length,List.length_append];simp only [List.length_drop] at htl;omega
       have hxs:=mK hx.size;replace hp:=mK hp;replace hdr:=mK hdr;replace hb:=mK hb;replace hbl:=mK hbl;clear htl hsl;by_cases hi1:i+1=ln
       ·have d1:¬((i:Int)<(ln:Int)-1):=by omega
        go_wp2_with (go_at_call 69;refine (Ge w3.heap.size w3.heap.size _ ⟨(decDigits p).toArray⟩ _ hb.out (by have:=hbl.out;rw [Iu,Ew];omega) hxs.out).mono ?_;rintro e w6 ⟨rfl,hb6,hB6⟩);go_roundg i
        case measure=>omega
        case rel=>
         refine ⟨rfl,by omega,.inr ?_,Ch hx hB6⟩;have he:ps.drop (i+1)=[]:=List.drop_eq_nil_of_le (by have:=hln.out;omega);rw [hdr.out,he,txt9,Lib.byteCells_append];rw [he,txt9,List.append_nil] at hb6;exact hb6
       ·have d1:(i:Int)<(ln:Int)-1:=by omega
        have hd9:(decDigits p).length≤9:=by rw [Ew];exact hn9
        have hz9:=mK (zeros9 _ hd9);have hzs:=mK (show ((⟨#[48,48,48,48,48,48,48,48,48]⟩:ByteArray).extract (decDigits p).length 9).size≤9 by rw [←Lib.strCells_length,hz9.out,Lib.byteCells_length,List.length_replicate];omega);have hne9:((decDigits p).length:Int)≤9:=by omega
        go_wp2_with (first
         | (go_at_call 69;refine (Ge w3.heap.size w3.heap.size _ _ wr hb.out (by have:=hbl.out;have:=hzs.out;omega) hxs.out).mono ?_;rintro e w5 ⟨rfl,hb5,hB5⟩;rw [hz9.out] at hb5;replace hb5:=mK hb5;(have hx5:=mK (Ch hx hB5));(have hci5:=Kz (hr3.out.ext hx5.out) i hk);rw [←hp.out] at hci5)
         | (go_at_call 69;refine (Ge w3.heap.size w3.heap.size _ ⟨(decDigits p).toArray⟩ w5 (.inr hb5.out) (by have:=hbl.out;rw [Iu,Ew,List.length_append,Lib.byteCells_length (List.replicate _ _),List.length_replicate];omega) hx5.out.size).mono ?_;rintro e w6 ⟨rfl,hb6,hB6⟩))
        go_roundg i
        case measure=>omega
        case rel=>
         refine ⟨rfl,by omega,.inr ?_,Ch hx5.out hB6⟩
         have he:ps.drop (i+1)≠[]:=by
          intro e;have:=List.drop_eq_nil_iff.1 e;have:=hln.out;omega
         have hcat:Lib.byteCells (sgn++txt9 (ps.drop i))=Lib.byteCells (sgn++txt9 (ps.drop (i+1)))++Lib.byteCells (List.replicate (9-(decDigits p).length) 48)++Lib.strCells ⟨(decDigits p).toArray⟩:=by
          rw [hdr.out,Nd p he,Wc hp9,Ew,Lib.strCells_eq];simp [Lib.byteCells]
         rw [hcat];exact hb6
    ·go_wp2_with (go_at_call 68;refine (Aen w3.heap.size w3.heap.size [] 45 _ hB.out (by simp) (by simp)).mono ?_;rintro e w4 ⟨rfl,hb4,hB4⟩;replace hb4:=mK hb4;replace hB4:=mK hB4)
     obtain ⟨sgn,hsg⟩:=nmE ([45]:List UInt8)
     have hit:sgn++txt9 ps=itoa X:=by
      have h1:=hbx.out;have h2:=hXX.out;rw [hsg,Gu ps hp0 hps.out (.inr (hlast.out trivial hp0)),←hv.out];unfold itoa;rw [if_pos (by simpa using h1),←h2];rfl
     have hit0:sgn++txt9 ps≠[]:=by
      rw [hsg,Gu ps hp0 hps.out (.inr (hlast.out trivial hp0)),decDigits_eq];intro e;have:=congrArg List.length e;simp at this
     replace hit:=mK hit;replace hit0:=mK hit0;have st:Hid (Dig2 w3 sgn ps ln (.int .i64 ((ln:Int)-1)) w4):=⟨rfl,by rw [hln.out];exact nR _,.inr (by rw [hsg,←hln.out,List.drop_length];exact hb4.out),Ch ((xR w3).al _) hB4.out⟩
     replace hsg:=mK hsg;go_loopg [6] ln (fun k v6 wr=>Dig2 w3 sgn ps k v6 wr)
     case atStart=>exact st.out
     case round=>
      obtain ⟨e6,hk,hb,hx⟩:=hrel;clear st c0 hB hb4 hB4;by_cases hk0:gk=0
      ·subst hk0
       subst e6;rw [List.drop_zero] at hb;have BS:=mK (Tryz.Builder_String w3.heap.size w3.heap.size _ wr hb hit0.out);go_wp2_with (go_at_call 30;refine BS.out.mono ?_;rintro e w5 ⟨rfl,hB5⟩);rw [hit.out];exact ⟨rfl,.string ⟨(itoa X).toArray⟩,by simp [results],rfl,(hE1.out.trans hEr.out).trans (Ch hx hB5)⟩
      ·obtain ⟨i,rfl⟩:∃ i,gk=i+1:=⟨gk-1,by omega⟩
       rw [show ((i+1:Nat):Int)-1=(i:Int) by omega] at e6;subst e6;have hrw:=hr3.out.ext hx;have hci:=Kz hrw i hk;have hip:i<ln:=by have:=hln.out;omega
       obtain ⟨p,hp⟩:=nmE (ps.getD i 0);rw [←hp] at hci
       have hdr:ps.drop i=p::ps.drop (i+1):=by
        rw [hp,List.drop_eq_getElem_cons hk,List.getD_eq_getElem?_getD,List.getElem?_eq_getElem hk];rfl
       have hp9:p<1000000000:=hps.out p (List.mem_of_mem_drop (i:=i) (by rw [hdr];simp));have hn9:=Gk hp9;have htl:=Lk (ps.drop (i+1)) (fun x hx=>hps.out x (List.mem_of_mem_drop hx))
       have hwi:IntKind.i64.wrap ((i:Int)-1)=(i:Int)-1:=by
        have:=hpn.out;have:=hln.out;rw [IntKind.wrap_i64];omega
       have hsl:sgn.length≤1:=by rw [hsg.out];simp
       have hbl:(Lib.byteCells (sgn++txt9 (ps.drop (i+1)))).length≤2000000:=by
        have:=hpn.out;have:=hln.out;rw [Lib.byteCells_length,List.length_append];simp only [List.length_drop] at htl;omega
       have hxs:=mK hx.size;replace hp:=mK hp;replace hdr:=mK hdr;replace hb:=mK hb;replace hbl:=mK hbl;clear htl hsl;by_cases hi1:i+1=ln
       ·have d1:¬((i:Int)<(ln:Int)-1):=by omega
        go_wp2_with (go_at_call 69;refine (Ge w3.heap.size w3.heap.size _ ⟨(decDigits p).toArray⟩ _ hb.out (by have:=hbl.out;rw [Iu,Ew];omega) hxs.out).mono ?_;rintro e w6 ⟨rfl,hb6,hB6⟩);go_roundg i
        case measure=>omega
        case rel=>
         refine ⟨rfl,by omega,.inr ?_,Ch hx hB6⟩;have he:ps.drop (i+1)=[]:=List.drop_eq_nil_of_le (by have:=hln.out;omega);rw [hdr.out,he,txt9,Lib.byteCells_append];rw [he,txt9,List.append_nil] at hb6;exact hb6
       ·have d1:(i:Int)<(ln:Int)-1:=by omega
        have hd9:(decDigits p).length≤9:=by rw [Ew];exact hn9
        have hz9:=mK (zeros9 _ hd9);have hzs:=mK (show ((⟨#[48,48,48,48,48,48,48,48,48]⟩:ByteArray).extract (decDigits p).length 9).size≤9 by rw [←Lib.strCells_length,hz9.out,Lib.byteCells_length,List.length_replicate];omega);have hne9:((decDigits p).length:Int)≤9:=by omega
        go_wp2_with (first
         | (go_at_call 69;refine (Ge w3.heap.size w3.heap.size _ _ wr hb.out (by have:=hbl.out;have:=hzs.out;omega) hxs.out).mono ?_;rintro e w5 ⟨rfl,hb5,hB5⟩;rw [hz9.out] at hb5;replace hb5:=mK hb5;(have hx5:=mK (Ch hx hB5));(have hci5:=Kz (hr3.out.ext hx5.out) i hk);rw [←hp.out] at hci5)
         | (go_at_call 69;refine (Ge w3.heap.size w3.heap.size _ ⟨(decDigits p).toArray⟩ w5 (.inr hb5.out) (by have:=hbl.out;rw [Iu,Ew,List.length_append,Lib.byteCells_length (List.replicate _ _),List.length_replicate];omega) hx5.out.size).mono ?_;rintro e w6 ⟨rfl,hb6,hB6⟩))
        go_roundg i
        case measure=>omega
        case rel=>
         refine ⟨rfl,by omega,.inr ?_,Ch hx5.out hB6⟩
         have he:ps.drop (i+1)≠[]:=by
          intro e;have:=List.drop_eq_nil_iff.1 e;have:=hln.out;omega
         have hcat:Lib.byteCells (sgn++txt9 (ps.drop i))=Lib.byteCells (sgn++txt9 (ps.drop (i+1)))++Lib.byteCells (List.replicate (9-(decDigits p).length) 48)++Lib.strCells ⟨(decDigits p).toArray⟩:=by
          rw [hdr.out,Nd p he,Wc hp9,Ew,Lib.strCells_eq];simp [Lib.byteCells]
         rw [hcat];exact hb6
  ·have hkp:0<gk:=Nat.pos_of_ne_zero hk0
   have hpb:=Rj hsum hkp hXb.out;have hll:=Cg (show gk≠0 from hk0)
   obtain ⟨g,cap,cur,rfl,hbg,hbb,hle,hcm,_⟩:∃ g cap cur,u4=.slice (some ⟨g,0,none⟩) (lim gk).length cap∧w1.heap.size≤g∧w3.heap[g]? = some (.cells cur 150 (0,0))∧(lim gk).length≤cap∧cap≤maxLen∧True:=by
    rcases h4.2 with ⟨_,h0⟩|⟨g,cap,cur,e,h1,h2,h3,h5,_⟩
    ·rw [hll] at h0
     simp at h0
    ·exact ⟨g,cap,cur,e,h1,h2,h3,h5,trivial⟩
   obtain ⟨a3,n3,c3,rfl⟩:∃ a3 n3 c3,u3=.slice a3 n3 c3:=by
    rcases h3.2 with ⟨e,_⟩|⟨g,cap,cur,e,_⟩
    ·exact ⟨_,_,_,e⟩
    ·exact ⟨_,_,_,e⟩
   have SH:=mK (Vv w1.heap.size g (lim gk).length cap 1000000000 (lim gk) w3 rfl (by omega) (By _) (by omega) (by omega) h4);have hne3:=hne g rfl;have hlk:0<(lim gk).length:=by rw [hll];simp
   replace h3:=mK h3;replace hsum:=mK hsum;replace hps:=mK hps;replace hEr:=mK hEr;replace hbg:=mK hbg;replace hll:=mK hll;replace hl:=mK hl;clear hlast h4 hne hbb;generalize hnk:(lim gk).length=nk at *;replace hnk:=mK hnk
   go_wp2_with (first
    | (go_at_call 183;refine SH.out.mono ?_;rintro e w4 ⟨p,r,rfl,hSh,ho4,hg4⟩;replace hSh:=mK hSh;replace ho4:=mK ho4;replace hg4:=mK hg4;(have hr9:=hSh.out.2.2.1);(have hE4:=mK (hEr.out.gr hg4.out (fun k e=>by cases e;exact hbg.out)));(have h34:=mK (show Xa w4 w1.heap.size (.slice a3 n3 c3) (ps.map decDigits) from h3.out.kept hg4.out (.inr hne3)));clear SH h3 hEr)
    | (go_at_call 26;refine (Af6 r _ (by omega) (HT.out _ (hE1.out.trans hE4.out))).mono ?_;rintro e w5 ⟨rfl,hx5⟩;(have hE5:=mK (hE4.out.trans hx5));(have h35:=mK (show Xa w5 w1.heap.size (.slice a3 n3 c3) (ps.map decDigits) from Ca h34.out hx5));(have ho5:=mK (Ca ho4.out hx5));clear hx5 h34 ho4)
    | (at_builtin;refine wpList_append_own_at _ rfl _ _ 79 rfl w1.heap.size 9 i0 (.string ⟨#[]⟩) 1 16 Tryz.underlying79 hi hz0 hz1 hz2 rfl (by decide) _ _ _ rfl (h35.out.alloc _) ⟨w5.heap.size,0,none⟩ 1 1 [.string ⟨(decDigits r).toArray⟩] rfl rfl ?zc1 ?zc2 ?zc3 ?zc4 ?zc5 ?_;(case zc1=>intro j u hj;rcases j with _|j;(simp at hj;subst hj;simp [Addr.add]);(simp at hj));(case zc2=>intro u hu;simp at hu;subst hu;rfl);(case zc3=>have:=hlen.out;unfold maxLen;simp;omega);(case zc4=>have:=hlen.out;simp;omega);(case zc5=>have:=hE5.out.size;simp;omega);intro v6 w6 hown6 hgrow6 _ hloc6;(have hE6:=mK ((hE5.out.al _).gr hgrow6 (fun k e=>(h35.out.lt k e).1)));(have ho6:=(ho5.out.alloc _).kept hgrow6 (.inr (fun e=>hne3 e.symm)));(have hpl:p.length=nk:=hSh.out.1.trans hnk.out);(have hM6:MagO w6 w1.heap.size (.slice (some ⟨g,0,none⟩) p.length cap) p:=by unfold MagO;rw [hpl];exact ho6);(have hloc:=mK hloc6);(have hgl:=mK (ho5.out.lt g rfl).2);(have TR:=Ll (some ⟨g,0,none⟩) p cap w6 hSh.out.2.1 (by have:=hl.out;omega) (by omega) (by obtain ⟨_,_,e,_,hr⟩:=hM6.r;cases e;exact hr));rw [hpl] at TR;replace TR:=mK TR;replace hown6:=mK hown6;replace hM6:=mK hM6;replace hpl:=mK hpl;clear hgrow6 hloc6 ho6 h35 ho5 hE5)
    | (go_at_call 182;refine TR.out.mono ?_;rintro e w7 ⟨rfl,rfl⟩))
   have hNN:p.length=(lim gk).length∧OkL p∧r<1000000000∧gk=val p*1000000000+r:=by
    obtain ⟨q1,q2,q3,q4,q5⟩:=hSh.out;rw [List.drop_zero,List.drop_zero,Bn] at q5;exact ⟨q1,q2,q3,q5⟩
   obtain ⟨hq1,hq2,hq3,hq4⟩:=hNN;have hlt:val p<gk:=by omega
   have st2:Dig1 w1 w1.heap.size N (val p) v6 (.slice (some ⟨g,0,none⟩) (lim (val p)).length cap) w6:=by
    refine ⟨ps++[r],?_,?_,?_,?_,?_,?_,?_,?_,hE6.out⟩
    ·rw [Nc,hsum.out,List.length_append,List.length_singleton,Nat.pow_succ,hq4]
     grind
    ·intro x hx
     rcases List.mem_append.1 hx with h|h
     ·exact hps.out x h
     ·simp at h
      omega
    ·intro h0 _
     rw [List.getLastD_concat];omega
    ·have h:=hown6.out
     unfold Xa;rw [List.length_map] at h;rw [List.map_append,List.map_append,List.length_append,List.length_map];exact h
    ·exact MagO.lim hM6.out hq2
    ·intro k hk
     cases hk;rcases hloc.out with h|h
     ·rw [h]
      exact hne3
     ·rw [h]
      intro e;have:=hgl.out;simp at e;omega
    ·exact nT (Cq (Nat.le_of_lt hlt)) (by have:=hnk.out;have:=hl.out;omega)
    ·have:=hlen.out
     simp;omega
   go_roundg (val p)
   case measure=>exact hlt
   case rel=>exact st2
theorem Adm {n k:Nat}(h:n<2 ^ k):nDigits n≤k+1:=by
 by_cases hn:n=0
 ·subst hn
  rw [nDigits_small (by omega)];omega
 ·have p:=Cd n (by omega)
  have q:2 ^ (nDigits n-1)≤10 ^ (nDigits n-1):=Nat.pow_le_pow_left (by decide) _;have r:2 ^ (nDigits n-1)<2 ^ k:=by omega
  have:=(Nat.pow_lt_pow_iff_right (by decide:1<2)).1 r;omega
theorem Mf (X:Int):(itoa X).length≤32*nl X+2:=by
 have hXb:X.natAbs<2 ^ (32*(lim X.natAbs).length):=by
  have:=Cs (By X.natAbs);rw [Bn,show (4294967296:Nat)=2 ^ 32 from rfl,←Nat.pow_mul] at this;exact this
 have h:=Adm hXb;unfold itoa nl;split
 ·rw [List.length_cons,decDigits_length]
  omega
 ·rw [decDigits_length,show X.toNat=X.natAbs by omega]
  omega
theorem Vu (a b:List UInt8):((⟨a.toArray⟩:ByteArray)++⟨b.toArray⟩)=⟨(a++b).toArray⟩:=by
 apply ByteArray.ext;simp
def An (x:Rat):List UInt8:=if x.den=1 then itoa x.num else itoa x.num++47::itoa (x.den:Int)
theorem Rd (v:Value)(x:Rat)(w:World)(hX:nf x≤65536)(h:FracR w v x)(ht:Tab10 w) :
  Calls Tryz.prog 72 #[v] w fun e w'=>e=.returned (.string ⟨(An x).toArray⟩)∧Ext w w':=by
 have H:=h;obtain ⟨x1,x2,x3,x4,y1,y2,y3,y4,rfl⟩:=h.shape;have hn:nl x.num≤65536:=nT (Nat.le_max_left _ _) hX;have hd:nl (x.den:Int)≤65536:=nT (Nat.le_max_right _ _) hX;have L1:=mK (show ¬9223372036854775807<(itoa x.num).length+1 by have:=Mf x.num;omega);have L2:=mK (show ¬9223372036854775807<(itoa x.num).length+1+(itoa (x.den:Int)).length by have:=Mf x.num;have:=Mf (x.den:Int);omega);have HN:=mK (fun W (e:Ext w W)=>Sj (.agg #[.bool x1,.slice x2 x3 x4]) x.num W hn (H.ext e).num (In ht e));have HD:=mK (fun W (e:Ext w W)=>Sj (.agg #[.bool y1,.slice y2 y3 y4]) (x.den:Int) W hd (H.ext e).den (In ht e));have HR:=mK (fun W (e:Ext w W)=>(H.ext e).den);replace hd:=mK hd;clear h H ht hX hn;go_enter Tryz.func72,Tryz.ntmps72;go_wp2_with fail;obtain ⟨wb,hwb⟩:=nmE (w.alloc (.cells #[.bool x1,.slice x2 x3 x4,.bool y1,.slice y2 y3 y4] 28));have hE:=aLe1 hwb;obtain ⟨c0,c1⟩:=ceX1 (aL10 hwb);replace c0:=mK c0;replace c1:=mK c1;obtain ⟨-,-,c2,c3⟩:=ceX3 (aL10 hwb);have ho:=mK (fun w=>of_c 1 w (by omega) (by omega));rw [←hwb];replace hE:=mK hE;clear hwb;obtain ⟨sg1,hsg1⟩:=nmE (((x.den:Int)-1).sign)
 have hs0:(sg1==0)=decide (x.den=1):=by
  rw [hsg1,Bool.eq_iff_iff];simp only [beq_iff_eq,decide_eq_true_eq,Int.sign_eq_zero_iff_zero];omega
 replace hsg1:=mK hsg1;apply Ak [.val (.pointer (some ⟨w.heap.size,2,none⟩)),.val (.agg #[.bool y1,.slice y2 y3 y4]),.pred (fun W v=>IntO W 0 v 1),.val (.int .i64 sg1),.val (.bool (sg1==0))] (by kernel_rfl) (stable_vals _ (stable_vals _ (Av _ _ (stable_vals _ (stable_vals _ trivial)))));refine ⟨fun W hW _=>by go_simp;exact xR _,?_⟩;refine ⟨fun W hW _=>by have:=c2 W hW;have:=c3 W hW;go_simp;exact xR _,?_⟩;refine ⟨fun W hW _=>?g0,fun v0=>?_⟩
 case g0=>
  go_simp;refine (ho.out W).mono ?_;rintro e w' ⟨v,rfl,h1,h2⟩;exact ⟨v,rfl,h1,h2.mono (Nat.zero_le _)⟩
 refine ⟨fun W hW hF=>?g2,?_⟩
 case g2=>
  have h0:Hid (IntO W 0 v0 1):=hF.1 (by kernel_rfl);clear hF;go_simp;refine (Kt _ _ (x.den:Int) 1 W (nT hd.out (by decide)) Ka (HR.out W (hE.out.trans hW)) h0.out.r).mono ?_;rintro e w' ⟨rfl,h1⟩;rw [←hsg1.out];exact ⟨rfl,h1⟩
 refine ⟨fun W hW hF=>by go_simp;first|exact xR _|exact ⟨xR _,by simp⟩|exact ⟨xR _,rfl⟩,fun W hW hF=>?fin⟩
 case fin=>
  clear hF;have hE2:=mK (hE.out.trans hW);rw [hs0];clear hs0;by_cases hx1:x.den=1
  ·have hrt:=mK (show An x=itoa x.num by simp [An,hx1])
   rw [decide_eq_true hx1];have d0:=c0.out W hW;have d1:=c1.out W hW;clear hx1 c2 c3;go_simp;go_wp2_with (go_at_call 123;refine (HN.out _ hE2.out).mono ?_;rintro e w2 ⟨rfl,h2⟩;replace h2:=mK h2);go_ret;rw [hrt.out];exact ⟨rfl,hE2.out.trans h2.out⟩
  ·have hrt:=mK (show An x=itoa x.num++47::itoa (x.den:Int) by simp [An,hx1])
   rw [decide_eq_false hx1];have d0:=mK (fun V (e:Ext W V)=>c0.out V (hW.trans e));have d1:=mK (fun V (e:Ext W V)=>c1.out V (hW.trans e));have d2:=mK (fun V (e:Ext W V)=>c2 V (hW.trans e));have d3:=mK (fun V (e:Ext W V)=>c3 V (hW.trans e));clear hx1 c2 c3 c0 c1;go_simp;go_wp2_with fail;apply Ak [.val (.pointer (some ⟨w.heap.size,0,none⟩)),.val (.agg #[.bool x1,.slice x2 x3 x4]),.val (.string ⟨(itoa x.num).toArray⟩),.val _,.val (.pointer (some ⟨w.heap.size,2,none⟩)),.val (.agg #[.bool y1,.slice y2 y3 y4]),.val (.string ⟨(itoa (x.den:Int)).toArray⟩),.val _] (by kernel_rfl) (stable_vals _ (stable_vals _ (stable_vals _ (stable_vals _ (stable_vals _ (stable_vals _ (stable_vals _ (stable_vals _ trivial))))))));refine ⟨fun V hV _=>by go_simp;exact xR _,?_⟩;refine ⟨fun V hV _=>by have:=d0.out V hV;have:=d1.out V hV;go_simp;exact xR _,?_⟩;refine ⟨fun V hV _=>?n1,?_⟩
   case n1=>
    go_simp;refine (HN.out V (hE2.out.trans hV)).mono ?_;rintro e w' ⟨rfl,h1⟩;exact ⟨rfl,h1⟩
   refine ⟨fun V hV _=>by go_simp;rw [if_neg L1.out];exact ⟨xR _,rfl⟩,?_⟩;refine ⟨fun V hV _=>by go_simp;exact xR _,?_⟩;refine ⟨fun V hV _=>by have:=d2.out V hV;have:=d3.out V hV;go_simp;exact xR _,?_⟩;refine ⟨fun V hV _=>?n2,?_⟩
   case n2=>
    go_simp;refine (HD.out V (hE2.out.trans hV)).mono ?_;rintro e w' ⟨rfl,h1⟩;exact ⟨rfl,h1⟩
   refine ⟨fun V hV _=>?n3,fun V hV _=>?fin2⟩
   case n3=>
    go_simp;rw [if_neg L2.out];exact ⟨xR _,rfl⟩
   case fin2=>
   have hEV:=mK (hE2.out.trans hV);clear hV;go_simp;go_wp2_with fail;go_ret;rw [hrt.out,show (#[47]:Array UInt8)=[47].toArray from rfl,Vu,Vu,List.append_assoc];exact ⟨rfl,hEV.out⟩
def Bm (kd:Int):List UInt8:=if kd=1 then [115,112,97,99,101] else if kd=2 then [108,101,110,115] else if kd=3 then [115,108,97,98] else if kd=4 then [115,117,114,102,97,99,101] else if kd=5 then [102,108,105,112] else []
def Ep (kd:Int):Nat:=if kd=1 then 1 else if kd=2 then 1 else if kd=3 then 2 else if kd=4 then 2 else 0
theorem Lh (kd:Int):Ep kd≤2:=by unfold Ep;split<;>(try split)<;>(try split)<;>(try split)<;>omega
theorem Ez (kd:Int):(Bm kd).length≤7:=by unfold Bm;split<;>(try split)<;>(try split)<;>(try split)<;>(try split)<;>simp
end Go.Proofs.YtlknpnommcohkaaGreatDoor
