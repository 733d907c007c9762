/-
  The Book's Parts: a list of parts, and the lists within. Parts that were handed back wait to be kept in a Book. law25: asked, of a catalogue that is there, any op; the law's state: catalogue, reference and Book, apart from one another. One operation that changes no memory may come late, behind operations of the tail. Apart of an empty Book (printed by tools/gen_apart0.py). law25: CatalogPlays, walked: printed by tools/gen_plays2.py. What a row of this seat gives at its first world: the powers of ten. CatalogPlays: for every script of ops that comes in the law returns true, and the script reads as it did. The card ties the row's five listed variables (tables of math/bits, internal/strconv and unicode/utf8) to the program's text; of these the proof looks into internal/strconv's powers of ten alone.
-/
import Derived.Test.YteogdoglboddhaaGreatDoorPAP
import Derived.Test.YteogdoglboddhaaGreatDoorPAL
import Derived.Test.YteogdoglboddhaaGreatDoorPAG
import Derived.Test.YteogdoglboddhaaGreatDoorPAF
import Derived.Test.YteogdoglboddhaaGreatDoorPAC
import Derived.Test.YteogdoglboddhaaGreatDoorPAM
import Derived.Test.YteogdoglboddhaaGreatDoorRows
import Derived.Shelf.Vars
import Derived.ProofKit
import Derived.LaidMore
import Derived.OpenShut
import Derived.Lay
import Derived.Stop.Joined
import Derived.Lib.SmallJoins
import Derived.SevenTiedAt
import Derived.Test.YteogdoglboddhaaGreatDoorCards
import Derived.Test.YteogdoglboddhaaGreatDoorTie
set_option maxHeartbeats 6400000
namespace Go.Proofs.YteogdoglboddhaaGreatDoor
set_option maxRecDepth 100000
open Go Go.RowKit Go.Proofs
theorem Wait.nextP {base bk:Nat}{es ps ns:List Ent}{e:Ent}{w w':World}(h:Wait base bk es ps w ns)(t:BkT bk w w')(he:∀ g,e.l.ownBlock=some g→¬Blocks ns g):Wait base bk es (ps++[e]) w' ns:=by
 refine ⟨fun i hi=>?_,h.D,fun g hg x=>?_,h.le⟩
 ·obtain ⟨xs,hx⟩:=h.L i hi
  refine ⟨xs,t.chg.row hx fun g hg hS=>h.out g ⟨i,hi,hg⟩ ?_⟩;rcases hS with x|x|x
  ·exact .inl x
  ·exact .inr (.inl x)
  ·exact .inr (.inr (.inl x))
 ·have ho:=h.out g hg
  have hg':=hg;obtain ⟨i,hi,hgi⟩:=hg';obtain ⟨xs,hx⟩:=h.L i hi;have hlt:g<w.heap.size:=(hx.lt g hgi).2;rcases x with x|x|x|x|x
  ·exact ho (.inl x)
  ·exact ho (.inr (.inl (t.o1 g hlt x)))
  ·exact ho (.inr (.inr (.inl (t.o2 g hlt x))))
  ·exact ho (.inr (.inr (.inr (.inl x))))
  ·rcases blocks_snoc.1 x with x|x
   ·exact ho (.inr (.inr (.inr (.inr x))))
   ·exact he g x hg
theorem Ah9 (base bk:Nat)(la:Option Addr)(len lc N:Nat)(es ps ns:List Ent)(w:World)(h:Bst base bk es ps ns w)(hN:N=es.length+ps.length)(hr:∃ xs,w.ownsRow base 58 11 (.slice la len lc) len xs)
  (hb:∀ g,(Value.slice la len lc).ownBlock=some g→¬BkP bk es ps w g∧¬Blocks ns g) (hn:N+1≤1000000∧len≤1000000) :
  Calls Tryz.prog 29 #[.pointer (some ⟨bk,0,none⟩),.slice la len lc] w fun e w'=>e=.returned (.tuple #[])∧Bst base bk es (ps++[Ent.mk (.slice la len lc) (N+1) len]) ns w'∧BkT bk w w':=by
 obtain ⟨sa,sc,h1,h2⟩:=h.I.p;refine (Zv bk base sa sc la len lc ps N w (by omega) (by omega) (by rw [hN];exact h.I.n) h1 h.I.f h2 (fun e=>(h.I.s2 bk ⟨_,_,_,h1,e.symm⟩).1 rfl) (Nat.le_of_lt (Nat.lt_of_le_of_lt h.I.bs h.I.lt))).mono fun e w' k=>?_;obtain ⟨r1,r2⟩:=h.I.part (by rw [hN]) h1 k.2 hr (fun g hg=>(hb g hg).1) hn;exact ⟨k.1,⟨r1,h.W.nextP r2 fun g hg=>(hb g hg).2⟩,r2⟩
def Ec (N:Nat)(f:FV×FV):List Ent:=Dz N f.1.a1 f.1.n1 f.1.c1 f.1.a2 f.1.n2 f.1.c2 f.2.a1 f.2.n1 f.2.c1 f.2.a2 f.2.n2 f.2.c2
def Bl:Nat→List (FV×FV)→List Ent
 | _,[]=>[]
 | N,f::r=>Ec N f++Bl (N+4) r
theorem Na (N:Nat)(f:FV×FV):(Ec N f).length=4:=rfl
theorem Ix:∀ (fs:List (FV×FV)) (N:Nat),(Bl N fs).length=4*fs.length
 | [],_=>rfl
 | f::r,N=>by
  rw [Bl,List.length_append,Na,Ix r,List.length_cons]
  omega
theorem Td:∀ (a b:List (FV×FV)) (N:Nat),Bl N (a++b)=Bl N a++Bl (N+4*a.length) b
 | [],b,N=>by simp [Bl]
 | f::a,b,N=>by
  rw [List.cons_append,Bl,Bl,Td a b,List.append_assoc,List.length_cons]
  congr 3
  omega
theorem Aaj (fs:List (FV×FV))(N k:Nat)(h:k<fs.length):Bl N (fs.take (k+1))=Bl N (fs.take k)++Ec (N+4*k) fs[k]:=by
 rw [List.take_succ_eq_append_getElem h,Td,List.length_take,Nat.min_eq_left (by omega)];simp [Bl]
theorem Aak (fs:List (FV×FV))(N k:Nat)(h:k<fs.length):Bl N (fs.drop k)=Ec N fs[k]++Bl (N+4) (fs.drop (k+1)):=by
 rw [List.drop_eq_getElem_cons h,Bl]
def FvL (os:List (PD×Value))(fs:List (FV×FV)):Prop:=∃ h:fs.length=os.length,∀ k (hk:k<os.length),os[k].2=.agg #[.string os[k].1.nm,.int .u8 os[k].1.kd,.bool fs[k].1.b1,.slice fs[k].1.a1 fs[k].1.n1 fs[k].1.c1,.bool fs[k].1.b2,.slice fs[k].1.a2 fs[k].1.n2 fs[k].1.c2,.bool fs[k].2.b1,.slice fs[k].2.a1 fs[k].2.n1 fs[k].2.c1,.bool fs[k].2.b2,.slice fs[k].2.a2 fs[k].2.n2 fs[k].2.c2,.int .i64 os[k].1.co]
theorem Afz:∀ {os:List (PD×Value)},AllV os→∃ fs,FvL os fs
 | [],_=>⟨[],rfl,fun k hk=>absurd hk (Nat.not_lt_zero k)⟩
 | x::r,h=>by
  obtain ⟨p,q,e⟩:=h x (List.mem_cons_self ..)
  obtain ⟨fs,hl,hf⟩:=Afz (os:=r) fun y hy=>h y (List.mem_cons_of_mem _ hy)
  refine ⟨(p,q)::fs,by simp [hl],fun k hk=>?_⟩
  cases k with
  | zero=>exact e
  | succ k=>exact hf k (by simpa using hk)
theorem Acy {w:World}{base:Nat}{a:Option Addr}{n c:Nat}{os:List (PD×Value)}{fs:List (FV×FV)}(h:w.ownsRow base 58 11 (.slice a n c) n (Af os))(hf:FvL os fs)(_hn:n=os.length){k:Nat}(hk:k<os.length) :
  ∃ b o,a=some ⟨b,o,none⟩∧w.rangeAt b (o+k*11) [.string os[k].1.nm,.int .u8 os[k].1.kd,.bool (fs[k]'(by rw [hf.1];exact hk)).1.b1,.slice (fs[k]'(by rw [hf.1];exact hk)).1.a1 (fs[k]'(by rw [hf.1];exact hk)).1.n1 (fs[k]'(by rw [hf.1];exact hk)).1.c1,.bool (fs[k]'(by rw [hf.1];exact hk)).1.b2,.slice (fs[k]'(by rw [hf.1];exact hk)).1.a2 (fs[k]'(by rw [hf.1];exact hk)).1.n2 (fs[k]'(by rw [hf.1];exact hk)).1.c2,.bool (fs[k]'(by rw [hf.1];exact hk)).2.b1,.slice (fs[k]'(by rw [hf.1];exact hk)).2.a1 (fs[k]'(by rw [hf.1];exact hk)).2.n1 (fs[k]'(by rw [hf.1];exact hk)).2.c1,.bool (fs[k]'(by rw [hf.1];exact hk)).2.b2,.slice (fs[k]'(by rw [hf.1];exact hk)).2.a2 (fs[k]'(by rw [hf.1];exact hk)).2.n2 (fs[k]'(by rw [hf.1];exact hk)).2.c2,.int .i64 os[k].1.co]:=by
 obtain ⟨a',c',h1,h2,h3⟩:=Ek h;simp only [Value.slice.injEq,true_and] at h1;obtain ⟨rfl,rfl⟩:=h1;rw [Xy] at h3
 have his:Is11 (os.map (·.2)):=fun v hv=>by
  obtain ⟨i,hi,rfl⟩:=List.mem_iff_getElem.1 hv;rw [List.getElem_map];exact ⟨_,_,_,_,_,hf.2 i (by simpa using hi)⟩
 obtain ⟨b,o,rfl,h4⟩:=Ph h3 his (k:=k) (by simpa using hk);refine ⟨b,o,rfl,?_⟩;rw [List.getElem_map,hf.2 k hk] at h4;exact h4
theorem Agj (base bk:Nat)(a:Option Addr)(n c N:Nat)(os:List (PD×Value))(fs:List (FV×FV))(es ps ns:List Ent)(w:World)(h:Bst base bk es ps (Bl N fs++ns) w)(hN:N=es.length+ps.length)(hf:FvL os fs)(hn:n=os.length)
  (hrow:w.ownsRow base 58 11 (.slice a n c) n (Af os)) (hs:∀ g,(Value.slice a n c).ownBlock=some g→¬BkP bk es ps w g∧¬Blocks (Bl N fs++ns) g) (hle:N+4*n+1≤1000000) :
  Calls Tryz.prog 7 #[.pointer (some ⟨bk,0,none⟩),.slice a n c] w fun e w'=>e=.returned (.tuple #[])∧Bst base bk (es++Bl N fs) (ps++[Ent.mk (.slice a n c) (N+4*n+1) n]) ns w'∧BkT bk w w':=by
 have hR:=fun W (t:BkT bk w W)=>t.chg.row hrow fun g hg hS=>(hs g hg).1 (by
  rcases hS with x|x|x
  ·exact .inl x
  ·exact .inr (.inl x)
  ·exact .inr (.inr (.inl x)))
 have hS2:∀ W,BkT bk w W→∀ g,(Value.slice a n c).ownBlock=some g→¬BkP bk (es++Bl N fs) ps W g∧¬Blocks ns g:=fun W t g hg=>by
  obtain ⟨h1,h2⟩:=hs g hg;have hlt:=(hrow.lt g hg).2;have hap:∀ {x y:List Ent},Blocks x g→Blocks (x++y) g:=fun {x y} ⟨i,hi,e⟩=>⟨i,by simp;omega,by rw [List.getElem_append_left hi];exact e⟩
  have hap2:∀ {x y:List Ent},Blocks y g→Blocks (x++y) g:=fun {x y} ⟨i,hi,e⟩=>⟨x.length+i,by simp;omega,by rw [List.getElem_append_right (by omega)];simpa using e⟩
  refine ⟨fun x=>?_,fun x=>h2 (hap2 x)⟩;rcases x with x|x|x|x|x
  ·exact h1 (.inl x)
  ·exact h1 (.inr (.inl (t.o1 g hlt x)))
  ·exact h1 (.inr (.inr (.inl (t.o2 g hlt x))))
  ·obtain ⟨i,hi,e⟩:=x
   rcases Nat.lt_or_ge i es.length with hl|hl
   ·rw [List.getElem_append_left hl] at e
    exact h1 (.inr (.inr (.inr (.inl ⟨i,hl,e⟩))))
   ·rw [List.getElem_append_right hl] at e
    exact h2 (hap ⟨i-es.length,by simp at hi;omega,e⟩)
  ·exact h1 (.inr (.inr (.inr (.inr x))))
 have hst:∃ k:Nat,k≤os.length∧Value.int .i64 0=.int .i64 k∧Bst base bk (es++Bl N (fs.take k)) ps (Bl (N+4*k) (fs.drop k)++ns) w∧BkT bk w w:=⟨0,Nat.zero_le _,rfl,by simpa [Bl] using h,BkT.of_ext h.I.lt (xR _)⟩
 obtain ⟨w0,hw0⟩:=nmE w;rw [←hw0] at hR hS2
 have hst:∃ k:Nat,k≤os.length∧Value.int .i64 0=.int .i64 k∧Bst base bk (es++Bl N (fs.take k)) ps (Bl (N+4*k) (fs.drop k)++ns) w∧BkT bk w0 w:=by
  obtain ⟨k,a1,a2,a3,a4⟩:=hst;exact ⟨k,a1,a2,a3,by rw [hw0];exact a4⟩
 replace hst:=mK hst;replace hR:=mK hR;replace hS2:=mK hS2;replace hf:=mK hf;replace hw0:=mK hw0;subst hn;clear h hs hrow;go_enter Tryz.func7,Tryz.ntmps7;go_wp2_with fail;go_loopw [4] (fun t4 wr=>∃ k:Nat,k≤os.length∧t4=.int .i64 k∧Bst base bk (es++Bl N (fs.take k)) ps (Bl (N+4*k) (fs.drop k)++ns) wr∧BkT bk w0 wr) (fun t4 _=>os.length-(intOf t4).toNat)
 case atStart=>exact hst.out
 case round=>
  clear hst;obtain ⟨k,hk,rfl,hB,hT⟩:=hrel;obtain ⟨w2,rfl⟩:=nmE (wr:World);by_cases hlt:k<os.length
  ·have hlt':(k:Int)<(os.length:Int):=by omega
   have hkf:k<fs.length:=by rw [hf.out.1];exact hlt
   obtain ⟨b,o,rfl,hr⟩:=Acy (hR.out w2 hT) hf.out rfl hlt;rw [Aak fs _ k hkf] at hB;have e1:=Aaj fs N k hkf
   have hK:=fun nm co kd=>Abu base bk nm co kd fs[k].1.b1 fs[k].1.a1 fs[k].1.n1 fs[k].1.c1 fs[k].1.b2 fs[k].1.a2 fs[k].1.n2 fs[k].1.c2 fs[k].2.b1 fs[k].2.a1 fs[k].2.n1 fs[k].2.c1 fs[k].2.b2 fs[k].2.a2 fs[k].2.n2 fs[k].2.c2 (N+4*k) (es++Bl N (fs.take k)) ps (Bl (N+4*k+4) (fs.drop (k+1))++ns) w2 (by rw [List.append_assoc] at hB;exact hB) (by
    rw [List.length_append,Ix,List.length_take,Nat.min_eq_left (by omega)]
    omega)
   have hN2:∀ W,Bst base bk ((es++Bl N (fs.take k))++Dz (N+4*k) fs[k].1.a1 fs[k].1.n1 fs[k].1.c1 fs[k].1.a2 fs[k].1.n2 fs[k].1.c2 fs[k].2.a1 fs[k].2.n1 fs[k].2.c1 fs[k].2.a2 fs[k].2.n2 fs[k].2.c2) ps (Bl (N+4*k+4) (fs.drop (k+1))++ns) W→Bst base bk (es++Bl N (fs.take (k+1))) ps (Bl (N+4*(k+1)) (fs.drop (k+1))++ns) W:=fun W x=>by
    rw [e1,←List.append_assoc,show N+4*(k+1)=N+4*k+4 by omega];exact x
   replace hN2:=mK hN2;generalize fs[k].1=p at *;generalize fs[k].2=q at *;generalize os[k].1=d at *;have hK:=mK (hK d.nm d.co d.kd);replace hT:=mK hT;replace hR:=mK hR;clear hB e1;have tok:Tok 0:=.mk _
   go_wp2_with (first
    | (replace tok:Tok 1:=nxT 0 tok;refine Cw (by rfl) 58 (.tmp 14) rfl b (o+k*11) rfl [.string d.nm,.int .u8 d.kd,.bool p.b1,.slice p.a1 p.n1 p.c1,.bool p.b2,.slice p.a2 p.n2 p.c2,.bool q.b1,.slice q.a1 q.n1 q.c1,.bool q.b2,.slice q.a2 q.n2 q.c2,.int .i64 d.co] _ hr Tryz.underlying58 rfl (by kernel_rfl) ?_)
    | (replace tok:Tok 2:=nxT 1 tok;go_at_call 10;refine hK.out.mono ?_;rintro e w3 ⟨rfl,hx,ht⟩;replace hx:=mK (hN2.out _ hx);replace ht:=mK (hT.out.trans ht)))
   refine ⟨⟨k+1,by omega,by go_num,hx.out,ht.out⟩,by simp [intOf];omega⟩
  ·have hke:k=os.length:=by omega
   subst hke;rw [←hf.out.1,List.take_length,List.drop_length] at hB;have hKp:=mK (Ah9 base bk a os.length c (N+4*os.length) (es++Bl N fs) ps ns w2 hB (by rw [List.length_append,Ix,hf.out.1];omega) ⟨_,hR.out w2 hT⟩ (hS2.out w2 hT) ⟨hle,by omega⟩);replace hT:=mK hT;clear hB;go_wp2_with (go_at_call 29;refine hKp.out.mono ?_;rintro e w3 ⟨rfl,hx,ht⟩;replace hx:=mK hx;replace ht:=mK (hT.out.trans ht));go_end0;exact ⟨rfl,hx.out,by rw [←hw0.out];exact ht.out⟩
def ownL (ns:List Ent):List Nat:=ns.filterMap fun e=>e.l.ownBlock
theorem blocks_own {ns:List Ent}{g:Nat}:Blocks ns g↔g∈ownL ns:=by
 constructor
 ·rintro ⟨i,hi,h⟩
  exact List.mem_filterMap.2 ⟨_,List.getElem_mem hi,h⟩
 ·intro h
  obtain ⟨e,he,hg⟩:=List.mem_filterMap.1 h;obtain ⟨i,hi,rfl⟩:=List.mem_iff_getElem.1 he;exact ⟨i,hi,hg⟩
theorem Ls:∀ {ns:List Ent},(ownL ns).Nodup→Distinct ns
 | [],_=>fun i j hi=>absurd hi (Nat.not_lt_zero i)
 | e::r,h=>by
  have hr:(ownL r).Nodup∧∀ g,e.l.ownBlock=some g→g∉ownL r:=by
   unfold ownL at h ⊢;rw [List.filterMap_cons] at h;split at h
   ·rename_i hn
    exact ⟨h,fun g hg=>by rw [hn] at hg;cases hg⟩
   ·rename_i b hb
    obtain ⟨h1,h2⟩:=List.nodup_cons.1 h;refine ⟨h2,fun g hg=>?_⟩;rw [hb] at hg;cases hg;exact h1
  have ih:=Ls hr.1;intro i j hi hj hne;cases i with
  | zero=>
   cases j with
   | zero=>exact absurd rfl hne
   | succ j=>
    simp only [List.getElem_cons_zero,List.getElem_cons_succ];cases hg:e.l.ownBlock with
    | none=>exact .inl rfl
    | some g=>exact .inr fun he=>hr.2 g hg (blocks_own.1 ⟨j,by simpa using hj,he.symm⟩)
  | succ i=>
   cases j with
   | zero=>
    simp only [List.getElem_cons_zero,List.getElem_cons_succ];cases hg:(r[i]'(by simpa using hi)).l.ownBlock with
    | none=>exact .inl rfl
    | some g=>exact .inr fun he=>hr.2 g he.symm (blocks_own.1 ⟨i,by simpa using hi,hg⟩)
   | succ j=>
    simp only [List.getElem_cons_succ];exact ih i j (by simpa using hi) (by simpa using hj) (by omega)
theorem Wj (a b:List Ent):ownL (a++b)=ownL a++ownL b:=List.filterMap_append
theorem Sk (N:Nat)(d:PD)(f:FV×FV):ownL (Ec N f)=Aloof.blks (.agg #[.string d.nm,.int .u8 d.kd,.bool f.1.b1,.slice f.1.a1 f.1.n1 f.1.c1,.bool f.1.b2,.slice f.1.a2 f.1.n2 f.1.c2,.bool f.2.b1,.slice f.2.a1 f.2.n1 f.2.c1,.bool f.2.b2,.slice f.2.a2 f.2.n2 f.2.c2,.int .i64 d.co]):=by
 obtain ⟨⟨b1,a1,n1,c1,b2,a2,n2,c2⟩,⟨b3,a3,n3,c3,b4,a4,n4,c4⟩⟩:=f;cases a1<;>cases a2<;>cases a3<;>cases a4<;>rfl
theorem Ir:∀ {os:List (PD×Value)} {fs:List (FV×FV)},FvL os fs→∀ N,ownL (Bl N fs)=Eu os
 | [],[],_,_=>rfl
 | [],_::_,h,_=>absurd h.1 (by simp)
 | _::_,[],h,_=>absurd h.1 (by simp)
 | x::os,f::fs,h,N=>by
  obtain ⟨h1,h2⟩:=h
  have e0:=h2 0 (by simp)
  simp only [List.getElem_cons_zero] at e0
  have ht:FvL os fs:=⟨by simpa using h1,fun k hk=>by have:=h2 (k+1) (by simpa using hk);simpa using this⟩
  rw [Bl,Wj,Sk N x.1 f,Ir ht,←e0]
  rfl
theorem Af2 (N:Nat)(f:FV×FV)(i:Nat)(hi:i<(Ec N f).length):(Ec N f)[i].n≤N+4:=by
 have:i=0∨i=1∨i=2∨i=3:=by rw [Na] at hi;omega
 rcases this with rfl|rfl|rfl|rfl<;>simp [Ec,Dz,Eb]
def Agv (lo:Nat)(w:World)(e:Ent):Prop:=(∃ xs,w.ownsRow lo 136 1 e.l e.len xs)∧e.len≤2048
theorem Adk {lo N:Nat}{w:World}{d:PD}{f:FV×FV}(h:PartK lo w (.agg #[.string d.nm,.int .u8 d.kd,.bool f.1.b1,.slice f.1.a1 f.1.n1 f.1.c1,.bool f.1.b2,.slice f.1.a2 f.1.n2 f.1.c2,.bool f.2.b1,.slice f.2.a1 f.2.n1 f.2.c1,.bool f.2.b2,.slice f.2.a2 f.2.n2 f.2.c2,.int .i64 d.co]) d)(hp:nf d.p≤2048)(hq:nf d.q≤2048):∀ e∈Ec N f,Agv lo w e:=by
 obtain ⟨⟨b1,a1,n1,c1,b2,a2,n2,c2⟩,⟨b3,a3,n3,c3,b4,a4,n4,c4⟩⟩:=f;obtain ⟨x1,y1,m1,e1,x2,y2,m2,e2,x3,y3,m3,e3,x4,y4,m4,e4,e0,⟨z1,u1,v1,q1,z2,u2,v2,q2,k1,i1,i2⟩,⟨z3,u3,v3,q3,z4,u4,v4,q4,k2,i3,i4⟩,-⟩:=h;cases e0;cases k1;cases k2
 have key:∀ {b:Bool} {a:Option Addr} {n c:Nat} {x:Int},IntO w lo (.agg #[.bool b,.slice a n c]) x→nl x≤2048→∀ N,Agv lo w (Ent.mk (.slice a n c) N n):=by
  rintro b a n c x ⟨s,e,hm⟩ hx N;cases e;have hm':=hm
  have hlen:n=(lim x.natAbs).length:=by
   rcases hm'.2 with ⟨e,e2⟩|⟨g,cap,cur,e,-⟩
   ·simp only [Value.slice.injEq] at e
    omega
   ·simp only [Value.slice.injEq] at e
    omega
  refine ⟨⟨_,by rw [hlen] at hm ⊢;exact hm⟩,?_⟩;show n≤2048
  rw [hlen];exact hx
 unfold nf at hp hq;intro e he;simp only [Ec,Dz,Eb,List.cons_append,List.nil_append,List.mem_cons,List.not_mem_nil,or_false] at he;rcases he with rfl|rfl|rfl|rfl
 ·exact key i1 (by omega) _
 ·exact key i2 (by omega) _
 ·exact key i3 (by omega) _
 ·exact key i4 (by omega) _
theorem Xe {lo:Nat}{w:World}:∀ {os:List (PD×Value)} {fs:List (FV×FV)},FvL os fs→(∀ x∈os,PartK lo w x.2 x.1)→(∀ x∈os,nf x.1.p≤2048∧nf x.1.q≤2048)→∀ N,∀ e∈Bl N fs,Agv lo w e∧e.n≤N+4*fs.length
 | [],[],_,_,_,_=>fun e he=>by cases he
 | [],_::_,h,_,_,_=>absurd h.1 (by simp)
 | _::_,[],h,_,_,_=>absurd h.1 (by simp)
 | x::os,f::fs,h,hk,hn,N=>by
  obtain ⟨h1,h2⟩:=h
  have e0:=h2 0 (by simp)
  simp only [List.getElem_cons_zero] at e0
  have ht:FvL os fs:=⟨by simpa using h1,fun k hk=>by have:=h2 (k+1) (by simpa using hk);simpa using this⟩
  intro e he
  rw [Bl] at he
  rcases List.mem_append.1 he with he|he
  ·have hx:=hn x (List.mem_cons_self ..)
   have:=hk x (List.mem_cons_self ..)
   rw [e0] at this
   refine ⟨Adk this hx.1 hx.2 e he,?_⟩
   obtain ⟨i,hi,rfl⟩:=List.mem_iff_getElem.1 he
   have:=Af2 N f i hi
   simp only [List.length_cons]
   omega
  ·obtain ⟨g1,g2⟩:=Xe ht (fun y hy=>hk y (List.mem_cons_of_mem _ hy)) (fun y hy=>hn y (List.mem_cons_of_mem _ hy)) (N+4) e he
   refine ⟨g1,?_⟩
   simp only [List.length_cons]
   omega
theorem Vg {base bk lo N:Nat}{es ps:List Ent}{w0 w:World}{os:List (PD×Value)}{fs:List (FV×FV)}(h:BkI base bk es ps w0)(e:Ext w0 w)(hf:FvL os fs)(hk:∀ x∈os,PartK lo w x.2 x.1)(hnod:(Eu os).Nodup)(hn:∀ x∈os,nf x.1.p≤2048∧nf x.1.q≤2048)(hlo:w0.heap.size≤lo)(hN:N+4*os.length≤1000000) :
  Bst base bk es ps (Bl N fs) w:=by
 have hb:=h.ext e;have hbase:base≤lo:=nT h.bs (nT (Nat.le_of_lt h.lt) hlo);have hP:=(h.chg (Chg.of_ext e (fun _=>False)) (fun _ _ x=>x)).2;have hg:=Xe hf hk hn N;rw [hf.1] at hg;refine ⟨hb,⟨fun i hi=>?_,Ls (by rw [Ir hf];exact hnod),fun g hgb x=>?_,fun i hi=>?_⟩⟩
 ·obtain ⟨⟨⟨xs,hx⟩,-⟩,-⟩:=hg _ (List.getElem_mem hi)
  exact ⟨xs,Db hx hbase⟩
 ·obtain ⟨i,hi,hgi⟩:=hgb
  obtain ⟨⟨⟨xs,hx⟩,-⟩,-⟩:=hg _ (List.getElem_mem hi);have h1:=(hx.lt g hgi).1;have h2:=(h.span g ((hP g).1 x)).2;omega
 ·obtain ⟨⟨-,h1⟩,h2⟩:=hg _ (List.getElem_mem hi)
  omega
theorem Mh {w:World}{v:Value}(h:RawF w v):∃ b1 a1 c1 b2 a2 c2,∃ l1 l2:List Nat,v=.agg #[.bool b1,.slice a1 l1.length c1,.bool b2,.slice a2 l2.length c2]∧(l1.length≤1000000000→l2.length≤1000000000→AnyL w (.agg #[.bool b1,.slice a1 l1.length c1,.bool b2,.slice a2 l2.length c2]) b1 l1 b2 l2):=by
 obtain ⟨b1,a1,c1,b2,a2,c2,l1,l2,h0,h1,h2,h3,h4⟩:=h;exact ⟨b1,a1,c1,b2,a2,c2,l1,l2,h0,fun g1 g2=>⟨a1,c1,a2,c2,rfl,by omega,by omega,h3,h4⟩⟩
theorem Afl (w:World)(g M:Nat)(es rs:List (PD×Value))(la:Option Addr)(ln lc:Nat)(v:Value)(h:Two w g M es (.slice la ln lc) rs)(ht:Tab10 w)(hr:RawOp w v)(hs:Vd v) :
  Calls Tryz.prog 6 #[.pointer (some ⟨g,0,none⟩),.agg #[.bool false,.slice la ln lc],v] w (AskQ w g M es (.slice la ln lc) rs):=by
 obtain ⟨kd,pn,pk,p1,p2,p3,p4,q1,q2,q3,q4,co,nm,u1,u2,u3,u4,rfl,hpn,hnm,f1,f2,f3⟩:=hr;obtain ⟨b1,a1,c1,b2,a2,c2,l1,l2,e1,j1⟩:=Mh f1;obtain ⟨b3,a3,c3,b4,a4,c4,l3,l4,e2,j2⟩:=Mh f2;obtain ⟨b5,a5,c5,b6,a6,c6,l5,l6,e3,j3⟩:=Mh f3;simp only [Value.agg.injEq,Array.mk.injEq,List.cons.injEq,and_true] at e1 e2 e3;obtain ⟨rfl,rfl,rfl,rfl⟩:=e1;obtain ⟨rfl,rfl,rfl,rfl⟩:=e2;obtain ⟨rfl,rfl,rfl,rfl⟩:=e3;obtain ⟨kd',pn',pk',co',nm',p,q,u,e,-,hp,hq,hu⟩:=hs;simp only [Value.agg.injEq,Array.mk.injEq,List.cons.injEq,and_true,Value.slice.injEq] at e;obtain ⟨-,-,-,-,⟨-,z1,-⟩,-,⟨-,z2,-⟩,-,⟨-,z3,-⟩,-,⟨-,z4,-⟩,-,-,-,⟨-,z5,-⟩,-,⟨-,z6,-⟩⟩:=e;have m1:l1.length≤1000000000:=by omega
 have m2:l2.length≤1000000000:=by omega
 have m3:l3.length≤1000000000:=by omega
 have m4:l4.length≤1000000000:=by omega
 have m5:l5.length≤1000000000:=by omega
 have m6:l6.length≤1000000000:=by omega
 have hn:nm.size≤9223372036854775807:=by omega
 have hp:pn.size≤9223372036854775807:=by omega
 by_cases d0:kd=0
 ·subst d0
  exact Afj w g M es rs la ln lc h pn pk co b1 l1 a1 c1 b2 l2 a2 c2 b3 l3 a3 c3 b4 l4 a4 c4 nm _ _ _ _ m1 m2 m3 m4 hp (j1 m1 m2) (j2 m3 m4)
 by_cases d1:kd=1
 ·subst d1
  exact Adb w g M es rs la ln lc h _ _ _ _ _ _ _ _ _ _ _ nm _ _ _ _ hn
 by_cases d2:kd=2
 ·subst d2
  exact Afk w g M es rs la ln lc h _ _ _ _ _ _ _ _ _ _ _ nm _ _ _ _ hn
 by_cases d3:kd=3
 ·subst d3
  exact Ada w g M es rs la ln lc h _ _ _ _ _ _ _ _ _ _ _ nm b5 a5 l5.length c5 b6 a6 l6.length c6 l5 l6 (by omega) (by omega) (j3 m5 m6)
 by_cases d4:kd=4
 ·subst d4
  exact Ac9 w g M es rs la ln lc h ht _ _ _ _ _ _ _ _ _ _ _ nm _ _ _ _
 exact Afm w g M es rs la ln lc h kd _ _ _ _ _ _ _ _ _ _ _ nm _ _ _ _ (by simpa using d0) (by simpa using d1) (by simpa using d2) (by simpa using d3) (by simpa using d4)
structure PlayI (w0 w:World) (g M i4 bk:Nat) (es:List (PD×Value)) (l0 l:Value) (rs:List (PD×Value)) (bes bps:List Ent):Prop where
 ext:Ext w0 w
 two:Two w g M es l rs
 row:w.heap[i4]? = some (.cells #[.bool false,l0] 28 (0,0))
 bki:BkI bk bk bes bps w
 sep:∀ j,BkP bk bes bps w j→¬twoB g M es l rs j
 s4:¬twoB g M es l rs i4
 lo:w0.heap.size≤i4
 i4b:i4<bk
 loM:w0.heap.size≤M
section
variable {w0 w w':World} {g M i4 bk:Nat} {es es':List (PD×Value)} {l0 l l':Value} {rs rs':List (PD×Value)} {bes bps bes' bps':List Ent} {S:Nat→Prop}
theorem PlayI.bkB (h:PlayI w0 w g M i4 bk es l0 l rs bes bps):∀ j,BkP bk bes bps w j→i4<j∧j<w.heap.size:=fun j hj=>by
 have h1:=h.bki.span j hj
 have h2:=h.i4b
 omega
theorem PlayI.step (h:PlayI w0 w g M i4 bk es l0 l rs bes bps)(c:Chg w w' S)(hT:∀ j,twoB g M es l rs j→¬S j)(hB:∀ j,BkP bk bes bps w j→¬S j)(h4:¬S i4)(h0:∀ j,S j→w0.heap.size≤j):PlayI w0 w' g M i4 bk es l0 l rs bes bps:=by
 obtain ⟨b1,b2⟩:=h.bki.chg c hB;exact ⟨c.ext w0 h.ext fun k hk x=>by have:=h0 k x;omega,h.two.chg c hT,(c.block i4 (Ak h.row) h4).trans h.row,b1,fun j hj=>h.sep j ((b2 j).1 hj),h.s4,h.lo,h.i4b,h.loM⟩
theorem PlayI.same (h:PlayI w0 w g M i4 bk es l0 l rs bes bps)(e:Ext w w'):PlayI w0 w' g M i4 bk es l0 l rs bes bps:=
 h.step (Chg.of_ext e (fun _=>False)) (fun _ _ x=>x) (fun _ _ x=>x) id fun _ x=>x.elim
theorem PlayI.ask (h:PlayI w0 w g M i4 bk es l0 l rs bes bps)(ht:Two w' g M es' l' rs')(c:Chg w w' (· = M))(hb:∀ j,twoB g M es' l' rs' j→twoB g M es l rs j∨w.heap.size≤j):PlayI w0 w' g M i4 bk es' l0 l' rs' bes bps:=by
 have hM:twoB g M es l rs M:=.inl (.inr (.inl rfl));have hB:∀ j,BkP bk bes bps w j→¬j=M:=fun j hj e=>h.sep j hj (e ▸ hM);obtain ⟨b1,b2⟩:=h.bki.chg c hB;have hi:=Ak h.row;refine ⟨c.ext w0 h.ext fun k hk x=>by have:=h.loM;omega,ht,(c.block i4 hi (fun e=>h.s4 (e ▸ hM))).trans h.row,b1,fun j hj x=>?_,fun x=>?_,h.lo,h.i4b,h.loM⟩
 ·have hj':=(b2 j).1 hj
  rcases hb j x with x|x
  ·exact h.sep j hj' x
  ·have:=(h.bkB j hj').2
   omega
 ·rcases hb i4 x with x|x
  ·exact h.s4 x
  ·omega
theorem PlayI.set (h:PlayI w0 w g M i4 bk es l0 l rs bes bps)(k:Value):PlayI w0 (w.setRow i4 #[.bool false,k]) g M i4 bk es k l rs bes bps:=by
 have c:=Chg.set w i4 #[.bool false,k];obtain ⟨b1,b2⟩:=h.bki.chg c fun j hj e=>by have:=(h.bkB j hj).1;omega
 exact ⟨c.ext w0 h.ext fun j hj x=>by have:=h.lo;omega,h.two.chg c fun j hj e=>h.s4 (e ▸ hj),setRow_heap _ _ _ _ _ _ h.row,b1,fun j hj=>h.sep j ((b2 j).1 hj),h.s4,h.lo,h.i4b,h.loM⟩
theorem PlayI.book {wA:World}(h:PlayI w0 w g M i4 bk es l0 l rs bes bps)(e:Ext w wA)(hb:BkI bk bk bes' bps' w')(t:BkT bk wA w')(n1:∀ j,Blocks bes' j→Blocks bes j∨w.heap.size≤j)(n2:∀ j,Blocks bps' j→Blocks bps j∨w.heap.size≤j):PlayI w0 w' g M i4 bk es l0 l rs bes' bps':=by
 have hA:=h.same e
 have hS:∀ j,(j=bk∨OwnB bk 1 wA j∨OwnB bk 12 wA j)→BkP bk bes bps wA j:=by
  rintro j (x|x|x)
  ·exact .inl x
  ·exact .inr (.inl x)
  ·exact .inr (.inr (.inl x))
 have hlt:∀ j,twoB g M es l rs j→j<w.heap.size:=h.two.lt;have hsz:=e.size;refine ⟨t.chg.ext w0 hA.ext fun k hk x=>?_,hA.two.chg t.chg fun j hj x=>hA.sep j (hS j x) hj,(t.chg.block i4 (Ak hA.row) fun x=>?_).trans hA.row,hb,fun j hj x=>?_,h.s4,h.lo,h.i4b,h.loM⟩
 ·have:=(hA.bkB k (hS k x)).1
  have:=h.lo;omega
 ·have:=(hA.bkB i4 (hS i4 x)).1
  omega
 ·have hj2:=hlt j x
  have old:BkP bk bes bps wA j→False:=fun y=>hA.sep j y x;rcases hj with y|y|y|y|y
  ·exact old (.inl y)
  ·exact old (.inr (.inl (t.o1 j (by omega) y)))
  ·exact old (.inr (.inr (.inl (t.o2 j (by omega) y))))
  ·rcases n1 j y with y|y
   ·exact old (.inr (.inr (.inr (.inl y))))
   ·omega
  ·rcases n2 j y with y|y
   ·exact old (.inr (.inr (.inr (.inr y))))
   ·omega
end
theorem Ad0 {base bk lo N:Nat}{es ps:List Ent}{w0 w:World}{p q:FV}{nm:ByteArray}{kd co:Int}{o:Option PD}(h:BkI base bk es ps w0)(e:Ext w0 w)(hk:GotK lo w p q nm kd co o)(hlo:w0.heap.size≤lo)(hN:N+4≤1000000) :
  Bst base bk es ps (Ec N (p,q)++[]) w∧∀ j,Blocks (Ec N (p,q)) j→lo≤j:=by
 cases o with
 | some d=>
  obtain ⟨⟨-,hok⟩,hd⟩:=hk;have hP:=hd d rfl
  have hf:FvL [(d,.agg #[.string d.nm,.int .u8 d.kd,.bool p.b1,.slice p.a1 p.n1 p.c1,.bool p.b2,.slice p.a2 p.n2 p.c2,.bool q.b1,.slice q.a1 q.n1 q.c1,.bool q.b2,.slice q.a2 q.n2 q.c2,.int .i64 d.co])] [(p,q)]:=⟨rfl,fun k hk=>by
   have:k=0:=by simpa using hk
   subst this
   rfl⟩
  have hnod:(Eu [(d,.agg #[.string d.nm,.int .u8 d.kd,.bool p.b1,.slice p.a1 p.n1 p.c1,.bool p.b2,.slice p.a2 p.n2 p.c2,.bool q.b1,.slice q.a1 q.n1 q.c1,.bool q.b2,.slice q.a2 q.n2 q.c2,.int .i64 d.co])]).Nodup:=by
   obtain ⟨b1,a1,n1,c1,b2,a2,n2,c2,b3,a3,n3,c3,b4,a4,n4,c4,e,h1,h2,h3⟩:=hP;simpa [Eu] using h3
  have hw:=Vg (N:=N) h e hf (fun x hx=>by rw [List.mem_singleton] at hx;subst hx;exact hP) hnod (fun x hx=>by rw [List.mem_singleton] at hx;subst hx;exact ⟨hok.1,hok.2.1⟩) hlo (by simpa using hN);refine ⟨hw,fun j hj=>?_⟩;rw [blocks_own,Sk N d (p,q)] at hj;exact (hP.span j hj).1
 | none=>
  obtain ⟨⟨rfl,rfl,rfl,rfl,rfl⟩,-⟩:=hk
  have hno:∀ j,¬Blocks (Ec N ((⟨false,none,0,0,false,none,0,0⟩:FV),(⟨false,none,0,0,false,none,0,0⟩:FV))) j:=fun j x=>by
   rw [blocks_own] at x;cases x
  have h4:∀ i (hi:i<(Ec N ((⟨false,none,0,0,false,none,0,0⟩:FV),(⟨false,none,0,0,false,none,0,0⟩:FV))).length),(Ec N ((⟨false,none,0,0,false,none,0,0⟩:FV),(⟨false,none,0,0,false,none,0,0⟩:FV)))[i].l=.slice none 0 0∧(Ec N ((⟨false,none,0,0,false,none,0,0⟩:FV),(⟨false,none,0,0,false,none,0,0⟩:FV)))[i].len=0∧(Ec N ((⟨false,none,0,0,false,none,0,0⟩:FV),(⟨false,none,0,0,false,none,0,0⟩:FV)))[i].n≤N+4:=fun i hi=>by
   have:i=0∨i=1∨i=2∨i=3:=by rw [Na] at hi;omega
   rcases this with rfl|rfl|rfl|rfl<;>simp [Ec,Dz,Eb]
  rw [List.append_nil];refine ⟨⟨h.ext e,⟨fun i hi=>?_,fun i j hi hj hne=>?_,fun j x=>absurd x (hno j),fun i hi=>?_⟩⟩,fun j x=>absurd x (hno j)⟩
  ·obtain ⟨k1,k2,-⟩:=h4 i hi
   rw [k1,k2];exact ⟨[],World.ownsRow_nil _ _ _ _⟩
  ·left
   rw [(h4 i hi).1];rfl
  ·obtain ⟨-,k2,k3⟩:=h4 i hi
   rw [k2];omega
end Go.Proofs.YteogdoglboddhaaGreatDoor
namespace Go.Proofs.YteogdoglboddhaaGreatDoor.LateO
set_option maxRecDepth 100000
open Go Go.RowKit Go.Proofs.YteogdoglboddhaaGreatDoor
def okFree (pre:List Nat)(n size:Nat)(l:List Oper):Bool:=Hj pre n size l&&slots n l
section
variable {P:Program} {Q:Exit→Act→World→Prop}
theorem region_lateO {id:Nat}{l:List Oper}{a:Act}{w:World}(R T:World→World→Prop)(A B:World→Prop)(K:Nat)(specs:List FSpec)(k:Nat)(ok:Oper)(d:Tmp)(v:Value)(hm:P.follows .mixedOrders=true)(hok:okFree [k] specs.length a.tmps.size l=true)(hK:K<specs.length)(hkK:k≠K)
  (hk:l[k]? = some ok) (hd:ok.dst=some d) (hs:specs[k]? = some (.val v)) (hns:Region.noSelect l.toArray=true)
  (hf:Region.free .any l.toArray (((List.range l.toArray.size).map fun j=>Cf ok j).toArray) k=true) (hQ:∀ c a w,Q (.panic c) (a.put ok.dst v) w→Q (.panic c) a w)
  (hy:∀ (a:Act) (W:World),A W∨B W→(∀ j s oj dj,specs[j]? = some s→l[j]? = some oj→oj.dst=some dj→Cf ok j=true→s.ok W (a.tmps.getD dj undef))→Yields P l.toArray ok v a)
  (hw:A w.drew) (hA:∀ W W',R W W'→A W→A W') (hB:∀ W W',R W W'→B W→B W') (hst:∀ s∈specs,∀ W W' v,R W W'→s.ok W v→s.ok W' v) (hsT:StableO T l K 0 l specs)
  (h:Ao P l R T A B K Q 0 specs l a []):(Code.region id l.toArray true).wp P Q a w:=by
 rw [okFree,Bool.and_eq_true] at hok
 exact La [k] R T A B K specs hm hok.1 (.inl hK) (fun j hj=>by
  obtain rfl:=List.mem_singleton.1 hj
  exact ⟨(List.getElem?_eq_some_iff.1 hs).1,hkK,ok,d,v,hk,hd,hs,hns,hf,hQ,hy⟩) hw hA hB hst hsT (Ko hok.2) h
end
end Go.Proofs.YteogdoglboddhaaGreatDoor.LateO
namespace Go.Proofs.YteogdoglboddhaaGreatDoor
set_option maxRecDepth 100000
open Go Go.RowKit Go.Proofs
theorem Ago (bk:Nat)(w:World)(h:∀ i,i≠0→i≤16→w.cell? ⟨bk,i,none⟩=some (.slice none 0 0)) :
  Calls Tryz.prog 11 #[.pointer (some ⟨bk,0,none⟩)] w fun e w'=>e=.returned (.bool true)∧w=w':=by
 have Z:=mK h;clear h;go_enter Tryz.func11,Tryz.ntmps11
 go_wp2_with (first
  | (go_at_call 35;refine (Aah bk w (Z.out _ (by decide) (by decide))).mono ?_;rintro e w' ⟨rfl,rfl⟩)
  | (go_at_call 36;refine (Hq bk w (Z.out _ (by decide) (by decide))).mono ?_;rintro e w' ⟨rfl,rfl⟩)
  | (go_at_call 37;refine (If bk w (Z.out _ (by decide) (by decide))).mono ?_;rintro e w' ⟨rfl,rfl⟩)
  | (go_at_call 38;refine (Gq bk w (Z.out _ (by decide) (by decide))).mono ?_;rintro e w' ⟨rfl,rfl⟩)
  | (go_at_call 39;refine (Kg bk w (Z.out _ (by decide) (by decide))).mono ?_;rintro e w' ⟨rfl,rfl⟩)
  | (go_at_call 40;refine (Ki bk w (Z.out _ (by decide) (by decide))).mono ?_;rintro e w' ⟨rfl,rfl⟩)
  | (go_at_call 41;refine (Ie bk w (Z.out _ (by decide) (by decide))).mono ?_;rintro e w' ⟨rfl,rfl⟩)
  | (go_at_call 42;refine (Mx bk w (Z.out _ (by decide) (by decide))).mono ?_;rintro e w' ⟨rfl,rfl⟩)
  | (go_at_call 43;refine (Gp bk w (Z.out _ (by decide) (by decide))).mono ?_;rintro e w' ⟨rfl,rfl⟩)
  | (go_at_call 44;refine (Kk bk w (Z.out _ (by decide) (by decide))).mono ?_;rintro e w' ⟨rfl,rfl⟩)
  | (go_at_call 45;refine (Kj bk w (Z.out _ (by decide) (by decide))).mono ?_;rintro e w' ⟨rfl,rfl⟩)
  | (go_at_call 46;refine (Qt bk w (Z.out _ (by decide) (by decide))).mono ?_;rintro e w' ⟨rfl,rfl⟩)
  | (go_at_call 47;refine (My bk w (Z.out _ (by decide) (by decide))).mono ?_;rintro e w' ⟨rfl,rfl⟩)
  | (go_at_call 48;refine (Kh bk w (Z.out _ (by decide) (by decide))).mono ?_;rintro e w' ⟨rfl,rfl⟩)
  | (go_at_call 49;refine (Mz bk w (Z.out _ (by decide) (by decide))).mono ?_;rintro e w' ⟨rfl,rfl⟩)
  | (go_at_call 50;refine (Id bk w (Z.out _ (by decide) (by decide))).mono ?_;rintro e w' ⟨rfl,rfl⟩)
  | (go_at_call 51;refine (Aab bk w (Z.out _ (by decide) (by decide))).mono ?_;rintro e w' ⟨rfl,rfl⟩)
  | (go_at_call 52;refine (Hm bk w (Z.out _ (by decide) (by decide))).mono ?_;rintro e w' ⟨rfl,rfl⟩)
  | (go_at_call 53;refine (Ic bk w (Z.out _ (by decide) (by decide))).mono ?_;rintro e w' ⟨rfl,rfl⟩)
  | (go_at_call 54;refine (Gm bk w (Z.out _ (by decide) (by decide))).mono ?_;rintro e w' ⟨rfl,rfl⟩)
  | (go_at_call 55;refine (Jx bk w (Z.out _ (by decide) (by decide))).mono ?_;rintro e w' ⟨rfl,rfl⟩)
  | (go_at_call 56;refine (Jz bk w (Z.out _ (by decide) (by decide))).mono ?_;rintro e w' ⟨rfl,rfl⟩)
  | (go_at_call 57;refine (Ib bk w (Z.out _ (by decide) (by decide))).mono ?_;rintro e w' ⟨rfl,rfl⟩)
  | (go_at_call 58;refine (Mt bk w (Z.out _ (by decide) (by decide))).mono ?_;rintro e w' ⟨rfl,rfl⟩)
  | (go_at_call 59;refine (Gl bk w (Z.out _ (by decide) (by decide))).mono ?_;rintro e w' ⟨rfl,rfl⟩)
  | (go_at_call 60;refine (Kb bk w (Z.out _ (by decide) (by decide))).mono ?_;rintro e w' ⟨rfl,rfl⟩)
  | (go_at_call 61;refine (Ka bk w (Z.out _ (by decide) (by decide))).mono ?_;rintro e w' ⟨rfl,rfl⟩)
  | (go_at_call 62;refine (Qo bk w (Z.out _ (by decide) (by decide))).mono ?_;rintro e w' ⟨rfl,rfl⟩)
  | (go_at_call 63;refine (Mu bk w (Z.out _ (by decide) (by decide))).mono ?_;rintro e w' ⟨rfl,rfl⟩)
  | (go_at_call 64;refine (Jy bk w (Z.out _ (by decide) (by decide))).mono ?_;rintro e w' ⟨rfl,rfl⟩)
  | (go_at_call 65;refine (Mv bk w (Z.out _ (by decide) (by decide))).mono ?_;rintro e w' ⟨rfl,rfl⟩)
  | (go_at_call 66;refine (Ia bk w (Z.out _ (by decide) (by decide))).mono ?_;rintro e w' ⟨rfl,rfl⟩)
  | (go_at_call 67;refine (Zn bk w (Z.out _ (by decide) (by decide))).mono ?_;rintro e w' ⟨rfl,rfl⟩)
  | (go_at_call 68;refine (Hl bk w (Z.out _ (by decide) (by decide))).mono ?_;rintro e w' ⟨rfl,rfl⟩)
  | (go_at_call 69;refine (Hz bk w (Z.out _ (by decide) (by decide))).mono ?_;rintro e w' ⟨rfl,rfl⟩)
  | (go_at_call 70;refine (Gk bk w (Z.out _ (by decide) (by decide))).mono ?_;rintro e w' ⟨rfl,rfl⟩)
  | (go_at_call 71;refine (Jr bk w (Z.out _ (by decide) (by decide))).mono ?_;rintro e w' ⟨rfl,rfl⟩)
  | (go_at_call 72;refine (Jt bk w (Z.out _ (by decide) (by decide))).mono ?_;rintro e w' ⟨rfl,rfl⟩)
  | (go_at_call 73;refine (Hy bk w (Z.out _ (by decide) (by decide))).mono ?_;rintro e w' ⟨rfl,rfl⟩)
  | (go_at_call 74;refine (Mn bk w (Z.out _ (by decide) (by decide))).mono ?_;rintro e w' ⟨rfl,rfl⟩)
  | (go_at_call 75;refine (Gj bk w (Z.out _ (by decide) (by decide))).mono ?_;rintro e w' ⟨rfl,rfl⟩)
  | (go_at_call 76;refine (Jv bk w (Z.out _ (by decide) (by decide))).mono ?_;rintro e w' ⟨rfl,rfl⟩)
  | (go_at_call 77;refine (Ju bk w (Z.out _ (by decide) (by decide))).mono ?_;rintro e w' ⟨rfl,rfl⟩)
  | (go_at_call 78;refine (Qd bk w (Z.out _ (by decide) (by decide))).mono ?_;rintro e w' ⟨rfl,rfl⟩)
  | (go_at_call 79;refine (Mo bk w (Z.out _ (by decide) (by decide))).mono ?_;rintro e w' ⟨rfl,rfl⟩)
  | (go_at_call 80;refine (Js bk w (Z.out _ (by decide) (by decide))).mono ?_;rintro e w' ⟨rfl,rfl⟩)
  | (go_at_call 81;refine (Mp bk w (Z.out _ (by decide) (by decide))).mono ?_;rintro e w' ⟨rfl,rfl⟩)
  | (go_at_call 82;refine (Hx bk w (Z.out _ (by decide) (by decide))).mono ?_;rintro e w' ⟨rfl,rfl⟩))
 go_ret;exact ⟨rfl,rfl⟩
structure ShutP (p:Prop):Prop where
 open':p
def Ags (p:Prop):Prop:=p
theorem Ajn {p:Prop}(h:Ags p):p:=h
theorem Ze {w0 w2 wb:World}{g M:Nat}(hC:Cat w2 g M [])(hE:Ext w0 w2)(_hg:w0.heap.size≤g)(hM:w0.heap.size≤M)(hb:wb=(w2.alloc (.cells #[.bool false,.slice none 0 0] 28)).alloc (.cells Bt 46)) :
  PlayI w0 wb g M w2.heap.size (w2.heap.size+1) [] (.slice none 0 0) (.slice none 0 0) [] [] []∧wb.heap[w2.heap.size+1]? = some (.cells Bt 46 (0,0)):=by
 have e2:Ext w2 wb:=by rw [hb];exact ((xR w2).al _).al _
 have z4:wb.heap[w2.heap.size]? = some (.cells #[.bool false,.slice none 0 0] 28 (0,0)):=by rw [hb];exact (heap_alloc_old _ _ (by simp)).trans (heap_alloc_new _ _)
 have zk:wb.heap[w2.heap.size+1]? = some (.cells Bt 46 (0,0)):=by rw [hb];exact Br _ _ _ (by simp)
 have hI:=BkI.start zk (nR _)
 have hlt:∀ j,twoB g M [] (.slice none 0 0) [] j→j<w2.heap.size:=by
  rintro j (hj|hj)
  ·exact hC.ltL j hj
  ·rcases hj with hj|⟨x,hx,-⟩
   ·cases hj
   ·cases hx
 refine ⟨⟨hE.trans e2,⟨hC.ext e2,Pj _,rfl,?_⟩,z4,hI,fun j hj x=>?_,fun x=>?_,hE.size,Nat.lt_succ_self _,hM⟩,zk⟩
 ·rintro j (hj|⟨x,hx,-⟩)
  ·cases hj
  ·cases hx
 ·have h1:=(hI.span j hj).1
  have h2:=hlt j x;omega
 ·have:=hlt _ x
  omega
theorem Agg (i:Nat)(h0:i≠0)(h1:i≤16):Bt[i]? = some (.slice none 0 0):=by
 have:i=1∨i=2∨i=3∨i=4∨i=5∨i=6∨i=7∨i=8∨i=9∨i=10∨i=11∨i=12∨i=13∨i=14∨i=15∨i=16:=by omega
 rcases this with rfl|rfl|rfl|rfl|rfl|rfl|rfl|rfl|rfl|rfl|rfl|rfl|rfl|rfl|rfl|rfl<;>rfl
theorem GotK.ext {lo:Nat}{w w':World}{p q:FV}{nm:ByteArray}{kd co:Int}{o:Option PD}(h:GotK lo w p q nm kd co o)(e:Ext w w'):GotK lo w' p q nm kd co o:=
 ⟨h.1.ext e,fun d hd=>(h.2 d hd).ext e⟩
theorem Rd {a b:List Ent}{g:Nat}(h:Blocks (a++b) g):Blocks a g∨Blocks b g:=by
 rw [blocks_own,Wj] at h;rcases List.mem_append.1 h with h|h
 ·exact .inl (blocks_own.2 h)
 ·exact .inr (blocks_own.2 h)
theorem Zf {w0 w wA:World}{g M i4 bk:Nat}{es:List (PD×Value)}{l0 l:Value}{rs:List (PD×Value)}{bes bps:List Ent}(h:PlayI w0 w g M i4 bk es l0 l rs bes bps)(v:Value)(os:List (PD×Value))(hO:OutP w.heap.size wA v os)(hos:Am os=Am es)(e:Ext w wA)(hN:bes.length+bps.length≤6000) :
  Calls Tryz.prog 7 #[.pointer (some ⟨bk,0,none⟩),v] wA fun e w'=>e=.returned (.tuple #[])∧∃ bes' bps',PlayI w0 w' g M i4 bk es l0 l rs bes' bps'∧bes'.length+bps'.length≤bes.length+bps.length+257∧bps'≠[]:=by
 obtain ⟨a,c,rfl,-,-⟩:=Ek hO.row
 have hlen:os.length≤64:=by
  have h1:=congrArg List.length hos;have h2:=h.two.cat.few;simp only [List.length_map] at h1;omega
 have hV:AllV os:=fun x hx=>by
  obtain ⟨p,q,e,-,-⟩:=(hO.part x hx).r.fv;exact ⟨p,q,e⟩
 obtain ⟨fs,hf⟩:=Afz hV;have hw:=Vg (N:=bes.length+bps.length) h.bki e hf hO.part hO.nod (Vc hos h.two.cat.ok) (nR _) (by omega);have hP:=(h.bki.chg (Chg.of_ext e (fun _=>False)) (fun _ _ x=>x)).2;have hbase:bk≤w.heap.size:=Nat.le_of_lt h.bki.lt
 have hnew:∀ j,Blocks (Bl (bes.length+bps.length) fs) j→w.heap.size≤j:=fun j hj=>by
  rw [blocks_own,Ir hf] at hj;exact (hO.span j hj).1
 refine (Agj bk bk a os.length c (bes.length+bps.length) os fs bes bps [] wA (by rw [List.append_nil];exact hw) rfl hf rfl (Db hO.row hbase) (fun j hj=>⟨fun x=>?_,fun x=>?_⟩) (by omega)).mono ?_
 ·have h1:=(hO.ownLt j hj).1
  have h2:=(h.bkB j ((hP j).1 x)).2;omega
 ·rw [List.append_nil,blocks_own,Ir hf] at x
  exact hO.own j hj x
 ·rintro e' w' ⟨rfl,hB,ht⟩
  refine ⟨rfl,_,_,h.book e hB.I ht (fun j hj=>?_) (fun j hj=>?_),?_,by simp⟩
  ·rcases Rd hj with hj|hj
   ·exact .inl hj
   ·exact .inr (hnew j hj)
  ·rcases blocks_snoc.1 hj with hj|hj
   ·exact .inl hj
   ·exact .inr (hO.ownLt j hj).1
  ·rw [List.length_append,List.length_append,Ix,hf.1,List.length_singleton]
   omega
theorem Acs {w0 w wA:World}{g M i4 bk:Nat}{es:List (PD×Value)}{l0 l:Value}{rs:List (PD×Value)}{bes bps:List Ent}(h:PlayI w0 w g M i4 bk es l0 l rs bes bps)(p q:FV)(nm:ByteArray)(kd co:Int)(o:Option PD)(hk:GotK w.heap.size wA p q nm kd co o)(e:Ext w wA)(hN:bes.length+bps.length≤6000) :
  Calls Tryz.prog 10 #[.pointer (some ⟨bk,0,none⟩),.agg #[.string nm,.int .u8 kd,.bool p.b1,.slice p.a1 p.n1 p.c1,.bool p.b2,.slice p.a2 p.n2 p.c2,.bool q.b1,.slice q.a1 q.n1 q.c1,.bool q.b2,.slice q.a2 q.n2 q.c2,.int .i64 co]] wA fun e w'=>e=.returned (.tuple #[])∧∃ bes',PlayI w0 w' g M i4 bk es l0 l rs bes' bps∧bes'.length+bps.length≤bes.length+bps.length+4∧bes'≠[]:=by
 obtain ⟨hw,hnew⟩:=Ad0 (N:=bes.length+bps.length) h.bki e hk (nR _) (by omega);refine (Abu bk bk nm co kd p.b1 p.a1 p.n1 p.c1 p.b2 p.a2 p.n2 p.c2 q.b1 q.a1 q.n1 q.c1 q.b2 q.a2 q.n2 q.c2 (bes.length+bps.length) bes bps [] wA hw rfl).mono ?_;rintro e' w' ⟨rfl,hB,ht⟩;refine ⟨rfl,_,h.book e hB.I ht (fun j hj=>?_) (fun j hj=>.inl hj),?_,?_⟩
 ·rcases Rd hj with hj|hj
  ·exact .inl hj
  ·exact .inr (hnew j hj)
 ·rw [List.length_append]
  have:(Dz (bes.length+bps.length) p.a1 p.n1 p.c1 p.a2 p.n2 p.c2 q.a1 q.n1 q.c1 q.a2 q.n2 q.c2).length=4:=rfl;omega
 ·simp [Dz,Eb]
def AskP (w0:World)(g M i4 bk n3:Nat)(l0:Value)(bes bps:List Ent)(F:Value→Value)(W:World)(v:Value):Prop:=
 ∃ a n k es rs,v=F (.agg #[.bool false,.slice a n k])∧PlayI w0 W g M i4 bk es l0 (.slice a n k) rs bes bps∧∀ j,BkP bk bes bps W j→j<n3
theorem AskP.ext {w0:World}{g M i4 bk n3:Nat}{l0:Value}{bes bps:List Ent}{F:Value→Value}{W W':World}{v:Value}(h:AskP w0 g M i4 bk n3 l0 bes bps F W v)(e:Ext W W'):AskP w0 g M i4 bk n3 l0 bes bps F W' v:=by
 obtain ⟨a,n,k,es,rs,h1,h2,h3⟩:=h;have hP:=(h2.bki.chg (Chg.of_ext e (fun _=>False)) (fun _ _ x=>x)).2;exact ⟨a,n,k,es,rs,h1,h2.same e,fun j hj=>h3 j ((hP j).1 hj)⟩
theorem To {ss:List FSpec}(w0:World)(g M i4 bk n3:Nat)(l0:Value)(bes bps:List Ent)(F:Value→Value)(h:StableAll Ext ss):StableAll Ext (.pred (AskP w0 g M i4 bk n3 l0 bes bps F)::ss):=⟨fun _ _ _ e h=>AskP.ext h e,h⟩
theorem Yl {b M:Nat}{cs:Array Value}{T:TypeId}{W W':World}{v:Value}(hM:M<b)(c:Chg W W' (· = M))(h:VarAt b cs T W v):VarAt b cs T W' v:=by
 obtain ⟨g,h1,h2,h3⟩:=h;exact ⟨g,h1,h2,(c.block g (Ak h3) (by omega)).trans h3⟩
theorem Zb {b k M:Nat}{cs:List Value}{W W':World}{es:List (PD×Value)}(hm:MapP W M es)(c:Chg W W' (· = M))(h:W.rangeAt b k cs):W'.rangeAt b k cs:=fun j v hv=>c.cell (h j v hv) (Ig hm (h j v hv))
theorem Ae3 {w0 W:World}{g M i4 bk n3 g7:Nat}{es:List (PD×Value)}{l0 l:Value}{rs:List (PD×Value)}{bes bps:List Ent}{old:Array Value}(h:PlayI w0 W g M i4 bk es l0 l rs bes bps)(hb:∀ j,BkP bk bes bps W j→j<n3)(hz:W.heap[g7]? = some (.cells old 28 (0,0)))(ho:old.all Au=true)(hg:n3≤g7)(h4:i4<n3)(h0:w0.heap.size≤n3)(cs:Array Value) :
  PlayI w0 (W.setRow g7 cs) g M i4 bk es l0 l rs bes bps:=
 h.step (Chg.set W g7 cs) (fun j hj e=>h.two.flat hz ho (e ▸ hj)) (fun j hj e=>by have:=hb j hj;omega) (by omega) (fun j e=>by omega)
def Aiu (w0:World)(g M i4 bk:Nat)(vs:List Value)(t6:Value)(wr:World):Prop:=
 ∃ k es la ln lc rs bes bps,k≤vs.length∧t6=.int .i64 (k:Nat)∧PlayI w0 wr g M i4 bk es (.slice la ln lc) (.slice la ln lc) rs bes bps∧bes.length+bps.length≤6000∧(k≤20→bes.length+bps.length≤300*k)∧(0<k→bes≠[]∧bps≠[])∧(k=0→wr.heap[bk]? = some (.cells Bt 46 (0,0)))
theorem Aho (s:Value)(vs:List Value)(w:World)(h:InO w s vs)(ht:Tab10 w) :
  Calls Tryz.prog 3 #[s] w fun e w'=>e=.returned (.bool true)∧Ext w w':=by
 obtain ⟨a,c,rfl,hca⟩:=h.slice;have hI:=mK (fun W (e:Ext w W)=>h.ext e);have HB:=mK (Agh _ vs w h);have hT:=mK (fun W (e:Ext w W)=>Cx ht e);have hlen:=h.len;clear h ht;go_enter Tryz.func3,Tryz.ntmps3;have tok:Tok 0:=.mk _;go_wp2_with (replace tok:Tok 1:=nxT 0 tok;go_at_call 4;refine HB.out.mono ?_;rintro e w1 ⟨r,rfl,hr,hx⟩;replace hr:=mK hr;(have hE1:=mK hx);clear hx;refine Ajn ?_);cases r with
 | true=>
  unfold Ags;clear tok;go_wp2_with fail;go_ret;exact ⟨rfl,hE1.out⟩
 | false=>
  unfold Ags;clear tok;obtain ⟨hvl,hsm⟩:=hr.out rfl;replace hsm:=mK hsm;clear hr HB;have tok:Tok 5:=.mk _;go_wp2_with (replace tok:Tok 6:=nxT 5 tok;go_at_call 5;refine (Ajq w1).mono ?_;rintro e w2 ⟨g,M,rfl,hcat,hx,hg,hM⟩;(have hE2:=mK (hE1.out.trans hx));(have hgg:=mK (nT hE1.out.size hg));(have hMM:=mK (nT hE1.out.size hM));replace hcat:=mK hcat;clear hx hg hM);obtain ⟨wb,hwb⟩:=nmE ((w2.alloc (.cells #[.bool false,.slice none 0 0] 28)).alloc (.cells #[.int .i64 0,.slice none 0 0,.slice none 0 0,.slice none 0 0,.slice none 0 0,.slice none 0 0,.slice none 0 0,.slice none 0 0,.slice none 0 0,.slice none 0 0,.slice none 0 0,.slice none 0 0,.slice none 0 0,.slice none 0 0,.slice none 0 0,.slice none 0 0,.slice none 0 0] 46));rw [←hwb];have hst:=Ze hcat.out hE2.out hgg.out hMM.out hwb;obtain ⟨hp0,hz0⟩:=hst;obtain ⟨i4,hi4⟩:=nmE w2.heap.size;obtain ⟨bk,hbk⟩:=nmE (w2.heap.size+1);rw [←hbk,←hi4] at hp0;rw [←hbk] at hz0;rw [←hbk,←hi4];have st:Hid (Aiu w g M i4 bk vs (.int .i64 0) wb):=⟨0,[],none,0,0,[],[],[],Nat.zero_le _,rfl,hp0,by simp,fun _=>by simp,fun h=>absurd h (Nat.lt_irrefl _),fun _=>hz0⟩
  clear hcat hgg hMM hwb hp0 hz0 hi4 hbk hE1 hE2 tok;go_loopw [6] (fun t6 wr=>Aiu w g M i4 bk vs t6 wr) (fun t6 _=>vs.length-(intOf t6).toNat)
  case atStart=>exact st.out
  case round=>
   clear st;obtain ⟨k,es,la,ln,lc,rs,bes,bps,hk,rfl,hP,hn1,hn2,hn3,hn4⟩:=hrel;obtain ⟨w3,rfl⟩:=nmE (wr:World);by_cases hlt:k<vs.length
   ·have hlt':(k:Int)<(vs.length:Int):=by omega
    have hI2:=hI.out w (xR w);obtain ⟨b,o,c',e1,-,hr⟩:=hI2.get hlt;simp only [Value.slice.injEq,true_and] at e1;obtain ⟨rfl,rfl⟩:=e1;have hraw:=hI2.raw _ (List.getElem_mem hlt);have hsmall:=hsm.out _ (List.getElem_mem hlt);obtain ⟨kd,pn,pk,co,nm,p,q,u,ev,hps,hns,-,-,-,-,-,-⟩:=hraw.lens;rw [ev] at hr hraw hsmall;replace hr:w.rangeAt b (o+k*17) [.int .u8 kd,.string pn,.int .u8 pk,.bool p.b1,.slice p.a1 p.n1 p.c1,.bool p.b2,.slice p.a2 p.n2 p.c2,.bool q.b1,.slice q.a1 q.n1 q.c1,.bool q.b2,.slice q.a2 q.n2 q.c2,.int .i64 co,.string nm,.bool u.b1,.slice u.a1 u.n1 u.c1,.bool u.b2,.slice u.a2 u.n2 u.c2]:=hr;clear hI2 ev;have HR:=mK (fun W (e:Ext w W)=>Bc hr e);have HA:=mK (fun W (e:Ext w3 W)=>Afl W g M es rs la ln lc _ (hP.two.ext e) (hT.out W (hP.ext.trans e)) (hraw.ext (hP.ext.trans e)) hsmall);have hM3:M<w3.heap.size:=hP.two.cat.lt M (.inr (.inl rfl));have hi4:i4<w3.heap.size:=Ak hP.row;have hw3:w.heap.size≤w3.heap.size:=hP.ext.size;have HZ:=mK (fun W (c:Chg w3 W (· = M))=>(c.block i4 hi4 (fun e=>hP.s4 (e ▸ (.inl (.inr (.inl rfl)))))).trans hP.row);have HRC:=mK (fun W (c:Chg w3 W (· = M))=>Zb hP.two.cat.map c (Bc hr hP.ext));have hP':=mK hP;have hns':nm.size≤9223372036854775807:=by omega
    replace hns':=mK hns';clear hr hraw hsmall hP hps hns;go_wp2_with fail
    apply LateO.region_lateO Ext (fun W W'=>Chg W W' (· = M)) (fun W=>Ext w3 W) (fun W=>Chg w3 W (· = M)) 6 [.val (.pointer (some ⟨g,0,none⟩)),.val (.agg #[.bool false,.slice la ln lc]),.val (.slice (some ⟨b,o,none⟩) vs.length c),.val (.int .i64 k),.val (.pointer (some ⟨b,o+k*17,none⟩)),.val (.agg #[.int .u8 kd,.string pn,.int .u8 pk,.bool p.b1,.slice p.a1 p.n1 p.c1,.bool p.b2,.slice p.a2 p.n2 p.c2,.bool q.b1,.slice q.a1 q.n1 q.c1,.bool q.b2,.slice q.a2 q.n2 q.c2,.int .i64 co,.string nm,.bool u.b1,.slice u.a1 u.n1 u.c1,.bool u.b2,.slice u.a2 u.n2 u.c2]),.pred (AskP w g M i4 bk w3.heap.size (.slice la ln lc) bes bps (fun x=>.tuple #[x,.bool true])),.pred (AskP w g M i4 bk w3.heap.size (.slice la ln lc) bes bps (fun x=>.tuple #[x,.bool true])),.pred (AskP w g M i4 bk w3.heap.size (.slice la ln lc) bes bps (fun x=>x)),.val (.bool true),.pred (VarAt w3.heap.size #[.bool false,.slice none 0 0] 28)] 9 _ 33 (.bool true) mixed (by kernel_rfl) (by simp) (by decide) rfl rfl rfl (by kernel_rfl) (by kernel_rfl) (fun _ _ _ h=>h)
     (fun a W _ hf=>by
      have h7:AskP w g M i4 bk w3.heap.size (.slice la ln lc) bes bps (fun x=>.tuple #[x,.bool true]) W (a.tmps.getD 24 undef):=hf 7 _ _ _ rfl rfl rfl (by kernel_rfl);obtain ⟨x1,x2,x3,x4,x5,h7,-⟩:=h7;refine .inl ⟨rfl,fun w=>?_⟩;simp only [execOp,Act.eval,h7]
      rfl)
     (xR w3).dr (fun _ _ e h=>h.trans e) (fun _ _ e h=>h.trans (Chg.of_ext e _)) (stableAll_mem (stable_vals _ (stable_vals _ (stable_vals _ (stable_vals _ (stable_vals _ (stable_vals _ (To _ _ _ _ _ _ _ _ _ _ (To _ _ _ _ _ _ _ _ _ _ (To _ _ _ _ _ _ _ _ _ _ (stable_vals _ (Oc _ _ _ trivial)))))))))))) ?hsT
    case hsT=>exact ⟨.inr (fun _ _ _ _ h=>h),.inr (fun _ _ _ _ h=>h),.inr (fun _ _ _ _ h=>h),.inr (fun _ _ _ _ h=>h),.inr (fun _ _ _ _ h=>h),.inr (fun _ _ _ _ h=>h),.inl (.inl rfl),.inl (.inr (by kernel_rfl)),.inl (.inr (by kernel_rfl)),.inr (fun _ _ _ _ h=>h),.inr (fun _ _ _ c h=>Yl hM3 c h),trivial⟩
    with_reducible refine Hn ?st ?_
    case st=>
     with_reducible refine Cz ?hne ?hss
     case hne=>decide
     case hss=>
      intro W hW _;go_simp;first|exact ⟨xR _,rfl⟩|exact xR _
    with_reducible refine Hn ?ld1 ?_
    case ld1=>
     with_reducible refine Cz ?hne ?_
     case hne=>decide
     intro W hW _;have hr:=HZ.out W (hW.elim (fun e=>Chg.of_ext e _) id);with_reducible refine De ?zhw 28 (.tmp 4) ?zho i4 ?zhx 28 #[.bool false,.slice la ln lc] (0,0) _ hr Tryz.underlying28 ?zhd ?zhi ?zh
     case zhw=>kernel_rfl
     case zho=>rfl
     case zhx=>kernel_rfl
     case zhd=>rfl
     case zhi=>kernel_rfl
     case zh=>exact ⟨xR _,rfl⟩
    with_reducible refine Hn ?st ?_
    case st=>
     with_reducible refine Cz ?hne ?hss
     case hne=>decide
     case hss=>
      intro W hW _;go_simp;first|exact ⟨xR _,rfl⟩|exact xR _
    with_reducible refine Hn ?st ?_
    case st=>
     with_reducible refine Cz ?hne ?hss
     case hne=>decide
     case hss=>
      intro W hW _;go_simp;first|exact ⟨xR _,rfl⟩|exact xR _
    with_reducible refine Hn ?st ?_
    case st=>
     with_reducible refine Cz ?hne ?hss
     case hne=>decide
     case hss=>
      intro W hW _;go_simp;first|exact ⟨xR _,rfl⟩|exact xR _
    with_reducible refine Hn ?ld2 ?_
    case ld2=>
     with_reducible refine Cz ?hne ?_
     case hne=>decide
     intro W hW _;have hr:=HRC.out W (hW.elim (fun e=>Chg.of_ext e _) id);with_reducible refine Bo ?zhw 60 (.tmp 29) ?zho b (o+k*17) ?zhx [.int .u8 kd,.string pn,.int .u8 pk,.bool p.b1,.slice p.a1 p.n1 p.c1,.bool p.b2,.slice p.a2 p.n2 p.c2,.bool q.b1,.slice q.a1 q.n1 q.c1,.bool q.b2,.slice q.a2 q.n2 q.c2,.int .i64 co,.string nm,.bool u.b1,.slice u.a1 u.n1 u.c1,.bool u.b2,.slice u.a2 u.n2 u.c2] _ hr Tryz.underlying60 ?zhd ?zhi ?zh
     case zhw=>kernel_rfl
     case zho=>rfl
     case zhx=>kernel_rfl
     case zhd=>rfl
     case zhi=>kernel_rfl
     case zh=>exact ⟨xR _,rfl⟩
    with_reducible refine Ln ?ca (fun v31=>?_)
    case ca=>
     with_reducible refine Yt ?heq ?_
     case heq=>decide
     intro W hW _;have hlB:=fun j hj=>((hP'.out.same hW).bkB j hj).2;have hPW:=hP'.out.same hW;have hBP:=(hP'.out.bki.chg (Chg.of_ext hW (fun _=>False)) (fun _ _ x=>x)).2;go_simp;refine (HA.out W hW).mono ?_;rintro e w' ⟨a2,n2,k2,es2,rs2,rfl,hT2,hX,hG⟩;refine ⟨_,rfl,hX,(Chg.of_ext hW _).trans hX,a2,n2,k2,es2,rs2,rfl,hPW.ask hT2 hX hG,fun j hj=>?_⟩;have hM:twoB g M es (.slice la ln lc) rs M:=.inl (.inr (.inl rfl));have h1:=((hPW.bki.chg hX (fun j hj e=>hPW.sep j hj (e ▸ hM))).2 j).1 hj;exact (hP'.out.bkB j ((hBP j).1 h1)).2
    with_reducible refine Ln ?mv (fun v24=>?_)
    case mv=>
     with_reducible refine Fn ?hne ?_
     case hne=>decide
     intro W hW hF;have h:Hid ((AskP w g M i4 bk w3.heap.size (.slice la ln lc) bes bps (fun x=>.tuple #[x,.bool true])) W v31):=hF.1 rfl;go_simp;exact ⟨xR _,h.out⟩
    with_reducible refine Ln ?ex (fun v32=>?_)
    case ex=>
     with_reducible refine Fn ?hne ?_
     case hne=>decide
     intro W hW hF;have h:(AskP w g M i4 bk w3.heap.size (.slice la ln lc) bes bps (fun x=>.tuple #[x,.bool true])) W v24:=hF.1 rfl;with_reducible refine ShutP.open' ?_
     obtain ⟨a2,n2,k2,es2,rs2,rfl,hx⟩:=h;with_reducible refine ShutP.mk ?_
     replace hx:=mK hx;go_simp;exact ⟨xR _,a2,n2,k2,es2,rs2,rfl,hx.out⟩
    with_reducible refine Hn ?ex2 ?_
    case ex2=>
     with_reducible refine Cz ?hne ?_
     case hne=>decide
     intro W hW hF;have h:(AskP w g M i4 bk w3.heap.size (.slice la ln lc) bes bps (fun x=>.tuple #[x,.bool true])) W v24:=hF.2.1 rfl;with_reducible refine ShutP.open' ?_
     obtain ⟨a2,n2,k2,es2,rs2,rfl,-⟩:=h;with_reducible refine ShutP.mk ?_
     go_simp;first|exact ⟨xR _,rfl⟩|exact xR _
    with_reducible refine Ln ?al (fun v7=>?_)
    case al=>
     with_reducible refine Fn ?hne ?_
     case hne=>decide
     intro W hW hF;have hsz:w3.heap.size≤W.heap.size:=hW.elim (fun e=>e.size) (fun e=>e.size);have hnv:=mK (Ga (b:=w3.heap.size) (cs:=#[.bool false,.slice none 0 0]) (T:=28) W hsz);go_simp;exact ⟨hnv.out.1,hnv.out.2.1⟩
    with_reducible refine Aic ?fin
    case fin=>
     intro W hW hF;have h7:VarAt w3.heap.size #[.bool false,.slice none 0 0] 28 W v7:=hF.1 rfl;have h8:(AskP w g M i4 bk w3.heap.size (.slice la ln lc) bes bps (fun x=>x)) W v32:=hF.2.1 rfl;obtain ⟨g7,rfl,hg7,hz7⟩:=h7;obtain ⟨a2,n2,k2,es2,rs2,rfl,hP2,hB2⟩:=h8;clear hF hW;have hX4:=Ae3 hP2 hB2 hz7 (by simp [Au]) hg7 hi4 hw3 #[.bool false,.slice a2 n2 k2];have zX7:(W.setRow g7 #[.bool false,.slice a2 n2 k2]).heap[g7]? = some (.cells #[.bool false,.slice a2 n2 k2] 28 (0,0)):=setRow_heap _ _ _ _ _ _ hz7;have hX5:=hX4.set (.slice a2 n2 k2);have zX4:=hX4.row;obtain ⟨w4,hw4⟩:=nmE (W.setRow g7 #[.bool false,.slice a2 n2 k2]);rw [←hw4] at hX5 zX7 zX4;obtain ⟨w5,hw5⟩:=nmE (w4.setRow i4 #[.bool false,.slice a2 n2 k2]);rw [←hw5] at hX5;replace hX5:=mK hX5;replace zX7:=mK zX7;replace zX4:=mK zX4;replace hw4:=mK hw4;replace hw5:=mK hw5;replace hz7:=mK hz7;clear hX4 hP2 hB2 HA HZ HRC hP' hg7;go_simp;by_cases h20:k<20
     ·have h20':(k:Int)<20:=by omega
      have hn5:=mK (hn2 (by omega));have hn6:=mK hn1;clear hn1 hn2 hn3 hn4;have tok:Tok 10:=.mk _
      go_wp2_with (first
       | (replace tok:Tok 11:=nxT 10 tok;refine wpList_store_row rfl 28 (.tmp 7) (.tmp 32) rfl g7 #[.bool false,.slice a2 n2 k2] rfl rfl 28 _ hz7.out (by kernel_rfl) rfl (by kernel_rfl) ?_;rw [←hw4.out])
       | (replace tok:Tok 12:=nxT 11 tok;refine wpList_load_row (by rfl) 28 (.tmp 7) rfl g7 rfl 28 #[.bool false,.slice a2 n2 k2] (0,0) _ zX7.out Tryz.underlying28 rfl (by kernel_rfl) ?_)
       | (replace tok:Tok 13:=nxT 12 tok;refine wpList_store_row rfl 28 (.tmp 4) (.tmp 36) rfl i4 #[.bool false,.slice a2 n2 k2] rfl rfl 28 _ zX4.out (by kernel_rfl) rfl (by kernel_rfl) ?_;rw [←hw5.out])
       | (replace tok:Tok 14:=nxT 13 tok;go_at_call 8;refine (Tm w5 g M es2 hX5.out.two.cat).mono ?_;rintro e w6 ⟨v6,os,rfl,hO,hos,hx6⟩;(have KP:=mK (Zf hX5.out v6 os hO hos hx6 hn6.out));clear hO hos hx6)
       | (replace tok:Tok 15:=nxT 14 tok;go_at_call 7;refine KP.out.mono ?_;rintro e w7 ⟨rfl,bes1,bps1,hP7,hn7,hne7⟩;(have c12:=(HR.out w7 hP7.ext) 12 _ rfl);replace hP7:=mK hP7;replace hn7:=mK hn7;replace hne7:=mK hne7)
       | (replace tok:Tok 16:=nxT 15 tok;go_at_call 9;refine (Ais nm w7 g M es2 hP7.out.two.cat hns'.out).mono ?_;rintro e w8 ⟨p1,q1,gn,gk,gc,rfl,hK8,hx8⟩;clear c12;replace hK8:=mK hK8;replace hx8:=mK hx8)
       | (replace tok:Tok 17:=nxT 16 tok;(obtain ⟨w9,hw9⟩:=nmE (w8.alloc (.cells #[.string gn,.int .u8 gk,.bool p1.b1,.slice p1.a1 p1.n1 p1.c1,.bool p1.b2,.slice p1.a2 p1.n2 p1.c2,.bool q1.b1,.slice q1.a1 q1.n1 q1.c1,.bool q1.b2,.slice q1.a2 q1.n2 q1.c2,.int .i64 gc] 58)));rw [←hw9];(have z9:=mK (aL10 hw9));(have x9:=mK (show Ext w8 w9 by rw [hw9];exact (xR _).al _));(have KQ:=mK (Acs hP7.out p1 q1 gn gk gc _ (hK8.out.ext x9.out) (hx8.out.trans x9.out) (by have h1:=hn7.out;have h2:=hn5.out;omega)));clear hw9;refine wpList_load_row (by rfl) 58 (.tmp 9) rfl w8.heap.size rfl 58 #[.string gn,.int .u8 gk,.bool p1.b1,.slice p1.a1 p1.n1 p1.c1,.bool p1.b2,.slice p1.a2 p1.n2 p1.c2,.bool q1.b1,.slice q1.a1 q1.n1 q1.c1,.bool q1.b2,.slice q1.a2 q1.n2 q1.c2,.int .i64 gc] (0,0) _ z9.out Tryz.underlying58 rfl (by kernel_rfl) ?_)
       | (replace tok:Tok 18:=nxT 17 tok;go_at_call 10;refine KQ.out.mono ?_;rintro e w10 ⟨rfl,bes2,hP10,hn10,hne10⟩;replace hP10:=mK hP10;replace hn10:=mK hn10;replace hne10:=mK hne10))
      have m1:=hn5.out;have m2:=hn7.out;have m3:=hn10.out;refine ⟨⟨k+1,es2,a2,n2,k2,rs2,bes2,bps1,by omega,by go_num,hP10.out,by omega,fun _=>by omega,fun _=>⟨hne10.out,hne7.out⟩,fun h=>by omega⟩,by simp [intOf];omega⟩
     ·have h20':¬(k:Int)<20:=by omega
      have hn5:=mK (And.intro hn1 (hn3 (by omega)));clear hn1 hn2 hn3 hn4;have tok:Tok 23:=.mk _
      go_wp2_with (first
       | (replace tok:Tok 24:=nxT 23 tok;refine wpList_store_row rfl 28 (.tmp 7) (.tmp 32) rfl g7 #[.bool false,.slice a2 n2 k2] rfl rfl 28 _ hz7.out (by kernel_rfl) rfl (by kernel_rfl) ?_;rw [←hw4.out])
       | (replace tok:Tok 25:=nxT 24 tok;refine wpList_load_row (by rfl) 28 (.tmp 7) rfl g7 rfl 28 #[.bool false,.slice a2 n2 k2] (0,0) _ zX7.out Tryz.underlying28 rfl (by kernel_rfl) ?_)
       | (replace tok:Tok 26:=nxT 25 tok;refine wpList_store_row rfl 28 (.tmp 4) (.tmp 36) rfl i4 #[.bool false,.slice a2 n2 k2] rfl rfl 28 _ zX4.out (by kernel_rfl) rfl (by kernel_rfl) ?_;rw [←hw5.out]))
      have m1:=hn5.out;refine ⟨⟨k+1,es2,a2,n2,k2,rs2,bes,bps,by omega,by go_num,hX5.out,m1.1,fun _=>by omega,fun _=>m1.2,fun h=>by omega⟩,by simp [intOf];omega⟩
   ·have hke:k=vs.length:=by omega
    subst hke
    have hAp:∀ W,Ext w3 W→Calls Tryz.prog 11 #[.pointer (some ⟨bk,0,none⟩)] W fun e w'=>e=.returned (.bool true)∧Chg W w' (BkP bk bes bps W):=by
     intro W e;by_cases h0:vs.length=0
     ·have hz:=e.blk (hn4 h0)
      refine (Ago bk W fun i i0 i1=>?_).mono fun e w' h=>⟨h.1,by rw [←h.2];exact Chg.refl _ _⟩
      rw [Aa hz i];exact Agg i i0 i1
     ·obtain ⟨n1,n2⟩:=hn3 (by omega)
      exact Agn w bk bk bes bps W (hT.out w (xR w)) (hP.ext.trans e) (by have h1:=hP.lo;have h2:=hP.i4b;omega) (hP.same e).bki n1 n2 (by omega) (by omega)
    have hAfter:∀ W wz,Ext w3 W→Chg W wz (BkP bk bes bps W)→Ext w wz∧Two wz g M es (.slice la ln lc) rs∧wz.heap[i4]? = some (.cells #[.bool false,.slice la ln lc] 28 (0,0)):=by
     intro W wz e c;have hPW:=hP.same e;refine ⟨c.ext w hPW.ext fun j hj x=>?_,hPW.two.chg c fun j hj x=>hPW.sep j x hj,(c.block i4 (Ak hPW.row) fun x=>?_).trans hPW.row⟩
     ·have h1:=(hPW.bkB j x).1
      have h2:=hPW.lo;omega
     ·have h1:=(hPW.bkB i4 x).1
      omega
    replace hAp:=mK hAp;replace hAfter:=mK hAfter;have hsz4:=mK hP.row;clear hP hn1 hn2 hn3 hn4 hI hsm;go_wp2_with fail
    go_region_with (first
     | (go_at_call 11;refine (hAp.out _ ?hap).mono ?_;(case hap=>first|exact xR _|exact (xR _).dr);rintro e wz ⟨rfl,hC⟩;(obtain ⟨hEz,hTz,hz4⟩:=hAfter.out _ _ (by first|exact xR _|exact (xR _).dr) hC);(have yz:=Ac hz4);replace hEz:=mK hEz;replace hTz:=mK hTz;replace hz4:=mK hz4;clear hC)
     | (go_at_call 8;refine (Tm wz g M es hTz.out.cat).mono ?_;rintro e w6 ⟨v6,os,rfl,hO,hos,hx6⟩;(have y6:=Ac (hx6.blk hz4.out));(obtain ⟨a6,c6,e6,-,-⟩:=Ek hO.row);subst e6;(have hE6:=mK (hEz.out.trans hx6));(have KS:=mK (Nn _ (.slice la ln lc) os rs w6 hO.rowL (hTz.out.ext hx6).ref.rowL (hos.trans hTz.out.same.symm) (Vc hos hTz.out.cat.ok) (by have h1:=congrArg List.length hos;have h2:=hTz.out.cat.few;simp only [List.length_map] at h1;omega)));clear hO hos hx6)
     | (go_at_call 12;refine KS.out.mono ?_;rintro e w7 ⟨rfl,hx7⟩;replace hE6:=mK (hE6.out.trans hx7);clear hx7))
    all_goals
     go_wp2_with fail;go_ret;exact ⟨rfl,hE6.out⟩
end Go.Proofs.YteogdoglboddhaaGreatDoor
namespace Go.Proofs.YteogdoglboddhaaGreatDoor
set_option maxRecDepth 100000
open Go Go.ChangeShapes Go.WideShapes Go.ChangeAt Go.RowKit Go.Joins Go.Deep
theorem Acz:ownKnob Tryz.prog.godebug=none:=by kernel_rfl
section
variable {H:Type} {enc:TypeId×Value→H}
theorem Rw {a:Assume}{C:Checked}{os:Os}{f:FuncId}{fn:Func}{s:ChangeSpec}{conds:List PathCond}{apart fresh handsOn again:Bool}{X:World→Array Value→Prop}
  (hX:∀ (w w':World) (args:Array Value),w.heap=w'.heap→X w args→X w' args) (own:ownKnob C.prog.godebug=none) (started:os.Started) (noInit:C.prog.inits.idxOf? f=none) (hfn:C.prog.funcs[f]? = some fn)
  (witness:∃ (w:World) (tape:Tape) (i:Input),w.os=os∧(w.forCall tape i).Shaped C.prog∧i.vars=[]∧Input.okWide C.prog (w.forCall tape i) .any w.heap.size f i ∧
   ((s.pre enc C.prog fn conds apart (w.forCall tape i).memory i.args∧X (w.forCall tape i).memory i.args)∧sizedMet enc C.prog fn (OpenSpec.ofChange s) apart (w.forCall tape i).memory i.args)∧a.holds C.prog (lone (Frame.enter C.prog f i.args .normal) [] (w.forCall tape i)))
  (contract:∀ (W:World) (base:Nat) (args:Array Value) (ds gs:List (DataW H)) (before:List MemPlace),(∀ (j:Nat) t v,fn.params[j]? = some t→args[j]? = some v→Value.okWide C.prog W .any base t v) →
   DataW.Whole enc C.prog fn.params.toList s.vars apart W args.toList ds gs before→conds.all (PathCond.test C.prog ⟨fn.params.toList,ds,s.plain.varTypes C.prog,gs⟩)=true →
   (DataW.weightsEach C.prog (fn.params.toList++s.plain.varTypes C.prog) (ds++gs)).all (·≤reachBytes)=true→X W args→W.ShapedOpen C.prog→a.holds C.prog (lone (Frame.enter C.prog f args .normal) [] W) →
   Calls C.prog f args W fun e W'=>∃ v,e=.returned v∧s.post enc C.prog fn apart fresh handsOn again W args v W') :
  ReturnsInHanded a C os f .any (fun w args=>(s.pre enc C.prog fn conds apart w args∧X w args)∧sizedMet enc C.prog fn (OpenSpec.ofChange s) apart w args) (s.post enc C.prog fn apart fresh handsOn again):=by
 refine returnsInHanded_of_calls own started noInit witness fun w tape i _ hsh _ hok hpre hh=>?_;have hval:=hok;obtain ⟨_,_,_,fn1,e1,_,_,_,_,hv⟩:=hval;obtain rfl:fn1=fn:=Option.some.inj (e1.symm.trans hfn);obtain ⟨⟨⟨ds,gs,before,hw,hc⟩,hx⟩,hz⟩:=hpre;have key:=contract (w.forCall tape i) w.heap.size i.args ds gs before hv (DataW.Whole.of_heap (w':=w.forCall tape i) (by rfl) hw) hc (hz.weights hw) (hX _ _ _ (by rfl) hx) hsh hh;refine key.mono ?_;rintro e W' ⟨v,rfl,hp⟩;exact ChangeSpec.post_blind hp
end
theorem Yr:(Rows.laid_internal_strconv_uint64pow10:DataW Unit)=Lib.tabData .u64 Lib.pow10Tab:=by kernel_rfl
theorem Ad6 {W:World}(h:laidMetH Tryz.prog Rows.catalogPlaysRow.laid W):Tab10 W:=by
 rw [MakeChecks.laidMetH_plain _ _ _ (by kernel_rfl)] at h;obtain ⟨ps,⟨_,_,_,_,_,_,_,_,_,_,h2,_⟩,_⟩:=h;obtain ⟨_,_,_,_,_,_,_,_,_,_,h3,_⟩:=h2;obtain ⟨g,t,cs,fuel,p,q,hg,hty,hvar,hd,_,_⟩:=h3;obtain rfl:=Option.some.inj ((show Tryz.prog.globalNamed "internal/strconv.uint64pow10" = some 1 by kernel_rfl).symm.trans hg);rw [Yr] at hd;obtain rfl:=Option.some.inj ((show (Tryz.prog.globals[1]?).map (·.type)=some 311 by kernel_rfl).symm.trans hty);have hc:=Lib.cells_of_tab Tryz.underlying311 Tryz.underlying264 (by kernel_rfl) (by kernel_rfl) hd;show W.var? Tryz.prog "internal/strconv.uint64pow10" = some _
 rw [hvar,←hc]
theorem Ub (os:Os)(started:os.Started)(H:Type)(enc:TypeId×Value→H) :
  ReturnsInHanded {} Tryz.checked os 3 .any (fun w args=>(Rows.catalogPlaysSpec.pre enc Tryz.prog Tryz.f3 [] false w args∧laidMetH Tryz.prog Rows.catalogPlaysRow.laid w)∧sizedMet enc Tryz.prog Tryz.f3 (OpenSpec.ofChange Rows.catalogPlaysSpec) false w args)
   (Rows.catalogPlaysSpec.post enc Tryz.prog Tryz.f3 false true false false):=by
 refine Rw (C:=Tryz.checked) (X:=fun w _=>laidMetH Tryz.prog Rows.catalogPlaysRow.laid w) (fun _ _ _ hh h=>h.of_heap hh) Acz started (by kernel_rfl) Tryz.func3
  (ChangeSpec.witness_shaped (enc:=enc) (C:=Tryz.checked) (os:=os) (X:=fun w _=>laidMetH Tryz.prog Rows.catalogPlaysRow.laid w) false (World.laidAll Tryz.prog os Rows.catalogPlaysRow.laid) #[.slice none 0 0] 8 (World.laidAll_os _ _ _)
   (World.shaped_of_ZipB (by kernel_rfl) (by kernel_rfl)) (by kernel_rfl) (by kernel_rfl) (by kernel_rfl)
   (by rw [MakeChecks.laidMetH_plain _ _ _ (by kernel_rfl)];exact laidMet_laidAll _ (by kernel_rfl) (by kernel_rfl))) ?_
 intro W base args ds gs before hval0 hW _ hsz hlaid _ _;have hW':=hW;obtain ⟨p,q,hA0,hV,rfl,hfz,hnd⟩:=hW;have hA:DataW.TrodAll enc Tryz.prog W 0 (fun _=>true) true Tryz.f3.params.toList args.toList ds p:=hA0;rw [Tryz.params3] at hA;obtain ⟨v0,d0,rfl,rfl,h0⟩:=trodAll_one hA;obtain ⟨rfl,rfl⟩:=trodVars_none hV;have P3:Tryz.f3.params=#[22]:=Tryz.params3
 have hw0:∀ k∈d0.weights Tryz.prog 22,k≤reachBytes:=by
  intro k hk;have hz:=List.all_eq_true.1 hsz;rw [P3] at hz;exact of_decide_eq_true (hz k (DataW.weights_mem_each (j:=0) (t:=22) (d:=d0) rfl rfl k hk))
 obtain ⟨vs,hR0⟩:∃ vs,InO W v0 vs:=Aje (hval0 0 22 v0 (by rw [P3];rfl) rfl) h0 hw0;have hlt0:∀ x∈p,x.block<W.heap.size:=fun x hx=>hW'.lt x (by simp [hx]);have key:Calls Tryz.prog 3 #[v0] W fun e w'=>e=.returned (.bool true)∧Ext W w':=Aho v0 vs W hR0 (Ad6 hlaid);refine key.mono fun e W' h=>?_;obtain ⟨rfl,hE⟩:=h;refine ⟨_,rfl,_,_,_,[],p,[],hW',trodAll_mk1 (shut_bool Tryz.underlying4 _),?_,rfl,hE.frame _,fun h=>by cases h⟩;have:Tryz.f3.params.toList=[22]:=by rw [P3]
 rw [this];exact trodAll_mk1 (Below.trod (by kernel_rfl) (by kernel_rfl) (of_decide_eq_true (by kernel_rfl)) h0 hE hlt0)
theorem Uc:joinedFacts Tryz.pinned.checked.prog 3 Tryz.f3 Rows.catalogPlaysSpec Rows.catalogPlaysRow=true:=by kernel_rfl
theorem Wc:Tryz.pinned.checked.prog.funcNamed Rows.catalogPlaysRow.func=some 3:=by kernel_rfl
theorem Zd:(Tryz.f3).isInstance Tryz.pinned.checked.prog Rows.catalogPlaysRow.origin Rows.catalogPlaysRow.targs:=of_decide_eq_true (by kernel_rfl)
theorem Zc:(Tryz.f3).isWrapper Tryz.pinned.checked.prog Rows.catalogPlaysRow.wrapper Rows.catalogPlaysRow.mainSum:=by unfold Func.isWrapper;first|(rw [if_pos (by decide +kernel)];kernel_rfl)|(rw [if_neg (by decide +kernel)];exact ⟨rfl,rfl⟩)
theorem Acr:Rows.CatalogPlaysSaid:=
 OpenClaim.holds_of_wide 3 Tryz.f3 rfl rfl rfl rfl rfl rfl rfl ⟨rfl,rfl,rfl,rfl,rfl⟩ rfl rfl rfl rfl rfl Wc Tryz.func3 Uc
  Zd Zc
  (fun os started H enc _=>Ub os started H enc)
theorem plays_holds : Rows.CatalogPlaysCardSaid :=
 Claim7.holds_tied_plain_at .later [] [.data,.data,.data,.data,.pinned] true (true, "b83ac8ff5ac106eafca9d4ee7c003ad17f4734c3f50c0ccc31264183ec534a24") false
  Acr (fun _ h=>by cases h) (by kernel_rfl) (fun _ h=>by cases h) catalogPlays_row_tie rfl ⟨rfl,rfl⟩ (by kernel_rfl) rfl
  (fun f fn hf hfn=>by
   obtain rfl:f=3:=Option.some.inj ((show Tryz.prog.funcNamed "polestar/polestarlaw25.CatalogPlays" = some 3 by kernel_rfl).symm.trans hf) |>.symm
   obtain rfl:fn=Tryz.f3:=(Option.some.inj (Tryz.func3.symm.trans hfn)).symm
   exact ⟨by kernel_rfl,fun j t ht=>by
    rw [Tryz.params3] at ht
    have hm:t∈[22]:=by simpa using Array.mem_of_getElem? ht
    have hall:([22].all fun u=>!Tryz.prog.wantsStandIn u)=true:=by kernel_rfl
    exact (show Tryz.prog.wantsStandIn t=false by simpa using List.all_eq_true.1 hall t hm)⟩)
  (by kernel_rfl)
#print axioms plays_holds
end Go.Proofs.YteogdoglboddhaaGreatDoor
