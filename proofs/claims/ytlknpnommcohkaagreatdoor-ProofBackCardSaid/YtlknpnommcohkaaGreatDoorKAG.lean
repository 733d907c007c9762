/-
  Plain law of a catalogue's text: words, numbers, fractions; what is told is read as it was, and the other way round. Plain law of a catalogue's text: lines and texts that are read. Plain law of a proof's text: its words, what is read of words, both ways. What came in as data that checks; what makes a proof that may be. proof: none, good (of any many fractions). frac.Check; proof.good. A world in which blocks without limbs may turn: fractions stay. proof's writer: a strings.Builder in a struct of its own; what its writes do: printed by tools/gen_wbuild.py. frac.Text of a fraction that may be: it is never too long. proof's writer: put.
-/
import Derived.Test.YtlknpnommcohkaaGreatDoorKAF
import Derived.Lib.SplitLaws
import Derived.Test.YtlknpnommcohkaaGreatDoorKAC
import Derived.Test.YtlknpnommcohkaaGreatDoorKAE
import Derived.Test.YtlknpnommcohkaaGreatDoorKAA
import Derived.LoopN
import Derived.Lib.AtoiAllCases
set_option maxHeartbeats 6400000
namespace Go.Proofs.YtlknpnommcohkaaGreatDoor
set_option maxRecDepth 100000
open Go Go.RowKit Go.Proofs Go.Lib
def Ar (c:UInt8):List UInt8→List (List UInt8)
 | []=>[[]]
 | b::r=>if b=c then []::Ar c r else (b::(Ar c r).headD [])::(Ar c r).tail
theorem Jq (c:UInt8)(l:List UInt8):Ar c l≠[]:=by
 cases l with
 | nil=>simp [Ar]
 | cons b r=>unfold Ar;split<;>simp
theorem Sv (c:UInt8)(y:List UInt8):Ar c (c::y)=[]::Ar c y:=by rw [Ar,if_pos rfl]
theorem Qf {b c:UInt8}(h:b≠c)(r:List UInt8):Ar c (b::r)=(b::(Ar c r).headD [])::(Ar c r).tail:=by rw [Ar,if_neg h]
theorem Kj {c:UInt8}:∀ {x:List UInt8},c∉x→Ar c x=[x]
 | [],_=>rfl
 | b::r,h=>by
  have hb:b≠c:=fun e=>h (by simp [e])
  have hr:c∉r:=fun e=>h (List.mem_cons_of_mem _ e)
  unfold Ar
  rw [if_neg hb,Kj hr]
  rfl
theorem Kl {c:UInt8}{y:List UInt8}:∀ {x:List UInt8},c∉x→Ar c (x++c::y)=x::Ar c y
 | [],_=>Sv c y
 | b::r,h=>by
  have hb:b≠c:=fun e=>h (by simp [e])
  have hr:c∉r:=fun e=>h (List.mem_cons_of_mem _ e)
  show Ar c (b::(r++c::y))=_
  rw [Qf hb,Kl hr]
  rfl
def Ai (c:UInt8):List (List UInt8)→List UInt8
 | []=>[]
 | [x]=>x
 | x::y::r=>x++c::Ai c (y::r)
theorem Hf (c:UInt8):∀ l:List UInt8,Ai c (Ar c l)=l
 | []=>rfl
 | b::r=>by
  have ih:=Hf c r
  have hn:=Jq c r
  unfold Ar
  obtain ⟨x,xs,hx⟩:∃ x xs,Ar c r=x::xs:=by
   cases h:Ar c r with
   | nil=>exact absurd h hn
   | cons x xs=>exact ⟨x,xs,rfl⟩
  rw [hx] at ih ⊢;split
  ·rename_i h
   subst h;show []++b::Ai b (x::xs)=_
   rw [ih];rfl
  ·cases xs with
   | nil=>
    simp only [List.headD_cons,List.tail_cons,Ai] at ih ⊢;rw [ih]
   | cons y ys=>
    simp only [List.headD_cons,List.tail_cons,Ai] at ih ⊢;rw [List.cons_append,ih]
theorem Xl (c:UInt8)(k:Nat)(l:List UInt8):splitK [c] 0 (k+1) (c::l)=[]::splitK [c] 0 k l:=by
 have hix:index (c::l) [c]=0:=by rw [index];simp [List.isPrefixOf]
 rw [splitK,hix];simp
theorem Xk {b c:UInt8}(h:b≠c)(k:Nat)(l:List UInt8):splitK [c] 0 k (b::l)=(b::(splitK [c] 0 k l).headD [])::(splitK [c] 0 k l).tail:=by
 cases k with
 | zero=>rfl
 | succ k=>
  have hp:([c]:List UInt8).isPrefixOf (b::l)=false:=by simp [List.isPrefixOf,Ne.symm h]
  have hix:index (b::l) [c]=if index l [c] == -1 then -1 else index l [c]+1:=by rw [index,hp];simp
  by_cases hm:index l [c] = -1
  ·rw [splitK,splitK,hix]
   simp [hm]
  ·have hge:=index_ge l [c]
   obtain ⟨j,hj⟩:∃ j:Nat,index l [c]=j:=⟨(index l [c]).toNat,by omega⟩
   have hj1:((j:Int) == -1)=false:=by simp
   have hj2:((j:Int)+1 == -1)=false:=by simpa using (by omega:¬(j:Int)+1 = -1)
   rw [splitK,splitK,hix,hj];simp only [hj1,hj2,Bool.false_eq_true,if_false];rw [show ((j:Int)+1).toNat=j+1 by omega,show ((j:Int)).toNat=j by omega];simp
theorem Gf (c:UInt8):∀ (l:List UInt8) (k:Nat),l.count c≤k→splitK [c] 0 k l=Ar c l
 | [],0,_=>rfl
 | [],k+1,_=>by
  rw [splitK,if_pos (by simp [index])]
  rfl
 | b::r,k,h=>by
  by_cases hb:b=c
  ·subst hb
   rw [List.count_cons_self] at h
   obtain ⟨k',rfl⟩:∃ k',k=k'+1:=⟨k-1,by omega⟩
   rw [Xl,Gf b r k' (by omega)]
   conv=>rhs;unfold Ar
   rw [if_pos rfl]
  ·rw [List.count_cons_of_ne (by simpa using hb)] at h
   rw [Xk hb,Gf c r k h]
   conv=>rhs;unfold Ar
   rw [if_neg hb]
theorem Oo (c:UInt8)(s:ByteArray):(splitB ⟨#[c]⟩ 0 (countB s ⟨#[c]⟩) s).map (·.data.toList)=Ar c s.data.toList:=by
 rw [splitB_data];show splitK [c] 0 (count s.data.toList [c]) s.data.toList=_
 rw [count_one,Gf c _ _ (nR _)]
def cutL (c:UInt8):List UInt8→Option (List UInt8×List UInt8)
 | []=>none
 | b::r=>if b=c then some ([],r) else (cutL c r).map fun p=>(b::p.1,p.2)
theorem Sm {c:UInt8}{y:List UInt8}:∀ {x:List UInt8},c∉x→cutL c (x++c::y)=some (x,y)
 | [],_=>by
  show cutL c (c::y)=_
  unfold cutL
  rw [if_pos rfl]
 | b::r,h=>by
  have hb:b≠c:=fun e=>h (by simp [e])
  have hr:c∉r:=fun e=>h (List.mem_cons_of_mem _ e)
  show cutL c (b::(r++c::y))=_
  unfold cutL
  rw [if_neg hb,Sm hr]
  rfl
theorem Oe {c:UInt8}:∀ {x:List UInt8},c∉x→cutL c x=none
 | [],_=>rfl
 | b::r,h=>by
  have hb:b≠c:=fun e=>h (by simp [e])
  have hr:c∉r:=fun e=>h (List.mem_cons_of_mem _ e)
  unfold cutL
  rw [if_neg hb,Oe hr]
  rfl
theorem Hv {c:UInt8}:∀ {l x y:List UInt8},cutL c l=some (x,y)→l=x++c::y∧c∉x
 | [],x,y,h=>by cases h
 | b::r,x,y,h=>by
  unfold cutL at h
  split at h
  ·rename_i hb
   cases h
   exact ⟨by simp [hb],by simp⟩
  ·rename_i hb
   cases hc:cutL c r with
   | none=>rw [hc] at h;cases h
   | some p=>
    obtain ⟨x',y'⟩:=p
    rw [hc] at h
    simp only [Option.map_some,Option.some.injEq,Prod.mk.injEq] at h
    obtain ⟨rfl,rfl⟩:=h
    obtain ⟨h1,h2⟩:=Hv hc
    refine ⟨by rw [h1];rfl,?_⟩
    intro hm
    rcases List.mem_cons.1 hm with e|e
    ·exact hb e.symm
    ·exact h2 e
theorem Vc (c:UInt8):∀ l:List UInt8,cut l [c]=match cutL c l with|some p=>(p.1,p.2,true)|none=>(l,[],false)
 | []=>by simp [cut,index,cutL]
 | b::r=>by
  have ih:=Vc c r
  by_cases hb:b=c
  ·subst hb
   have hix:index (b::r) [b]=0:=by rw [index];simp [List.isPrefixOf]
   unfold cut cutL
   rw [hix]
   simp
  ·have hp:([c]:List UInt8).isPrefixOf (b::r)=false:=by simp [List.isPrefixOf,Ne.symm hb]
   have hix:index (b::r) [c]=if index r [c] == -1 then -1 else index r [c]+1:=by rw [index,hp];simp
   unfold cutL
   rw [if_neg hb]
   by_cases hm:index r [c] = -1
   ·have hn:cutL c r=none:=by
     cases hc:cutL c r with
     | none=>rfl
     | some p=>
      rw [hc] at ih;unfold cut at ih;rw [if_neg (by omega)] at ih;cases congrArg (fun z=>z.2.2) ih
    rw [hn];unfold cut;rw [hix,hm];simp
   ·have hge:=index_ge r [c]
    obtain ⟨j,hj⟩:∃ j:Nat,index r [c]=j:=⟨(index r [c]).toNat,by omega⟩
    have hj1:((j:Int) == -1)=false:=by simp
    have hix:index (b::r) [c]=((j+1:Nat):Int):=by rw [hix,hj,if_neg (by rw [hj1];simp)];rfl
    unfold cut at ih ⊢;rw [hix,if_pos (by omega),show (((j+1:Nat):Int)).toNat=j+1 by omega];rw [hj,if_pos (by omega),show ((j:Int)).toNat=j by omega] at ih;cases hc:cutL c r with
    | none=>rw [hc] at ih;cases congrArg (fun z=>z.2.2) ih
    | some p=>
     rw [hc] at ih;simp only [Prod.mk.injEq,and_true] at ih;obtain ⟨h1,h2⟩:=ih;simp only [Option.map_some,←h1,←h2];simp
/-! Numbers. -/
theorem Hh:∀ (x y:List UInt8) (a b:Nat),decFrom a x=some b→decFrom a (x++y)=decFrom b y
 | [],y,a,b,h=>by
  simp only [decFrom,Option.some.injEq] at h
  subst h
  rfl
 | c::r,y,a,b,h=>by
  rw [List.cons_append]
  show (match digitVal c with|some d=>decFrom (a*10+d) (r++y)|none=>none)=_
  have h:(match digitVal c with|some d=>decFrom (a*10+d) r|none=>none)=some b:=h
  cases hd:digitVal c with
  | none=>rw [hd] at h;cases h
  | some d=>
   rw [hd] at h
   exact Hh r y _ b h
theorem Sk {d:Nat}(h:d<10):digitVal (UInt8.ofNat (48+d))=some d:=by
 have:∀ d:Fin 10,digitVal (UInt8.ofNat (48+d.val))=some d.val:=by decide
 exact this ⟨d,h⟩
theorem Fv (n:Nat):decFrom 0 (decDigits n)=some n:=by
 induction n using Nat.strongRecOn with
 | _ n ih=>
  rw [decDigits];by_cases h:n<10
  ·rw [dif_pos h]
   unfold decFrom;rw [Sk h];simp [decFrom]
  ·rw [dif_neg h,Hh _ _ _ _ (ih (n/10) (by omega))]
   unfold decFrom;rw [Sk (by omega)];simp only [decFrom];congr 1;omega
theorem Uy {b:UInt8}{d:Nat}(h:digitVal b=some d):d<10∧UInt8.ofNat (48+d)=b:=by
 obtain ⟨h1,h2,rfl⟩:=digitVal_eq h;refine ⟨by omega,?_⟩;rw [show 48+(b.toNat-48)=b.toNat by omega];simp
theorem Kr:∀ (k:Nat) (l:List UInt8),l.length=k→∀ n,decFrom 0 l=some n→l≠[]→(l.head?≠some 48∨l.length=1)→decDigits n=l∧(l.head?≠some 48→0<n)
 | 0,l,hk,n,_,h0,_=>absurd (List.eq_nil_of_length_eq_zero hk) h0
 | k+1,l,hk,n,h,h0,hh=>by
  obtain ⟨x,b,rfl⟩:∃ x b,l=x++[b]:=⟨l.dropLast,l.getLast h0,(List.dropLast_concat_getLast h0).symm⟩
  rw [List.length_append,List.length_singleton] at hk hh
  obtain ⟨m,hm⟩:=decFrom_prefix _ _ _ h x.length
  rw [List.take_left] at hm
  rw [Hh _ _ _ _ hm] at h
  unfold decFrom at h
  cases hd:digitVal b with
  | none=>rw [hd] at h;cases h
  | some d=>
   rw [hd] at h
   simp only [decFrom,Option.some.injEq] at h
   obtain ⟨h1,h2⟩:=Uy hd
   subst h
   by_cases hx:x=[]
   ·subst hx
    simp only [decFrom,Option.some.injEq] at hm
    subst hm
    rw [decDigits,dif_pos (by omega)]
    refine ⟨by simp [h2],fun e=>?_⟩
    rcases Nat.eq_zero_or_pos d with e0|e0
    ·subst e0
     exact absurd (by rw [←h2];rfl) e
    ·omega
   ·have hxh:x.head? = (x++[b]).head?:=by
     cases x with
     | nil=>exact absurd rfl hx
     | cons a r=>rfl
    have hx48:x.head?≠some 48:=by
     rw [hxh];rcases hh with hh|hh
     ·exact hh
     ·have:=List.length_pos_iff.2 hx
      omega
    obtain ⟨i1,i2⟩:=Kr k x (by omega) m hm hx (.inl hx48);have hm0:=i2 hx48;rw [decDigits,dif_neg (by omega),show (m*10+d)/10=m by omega,show (m*10+d)%10=d by omega,i1,h2];exact ⟨rfl,fun _=>by omega⟩
theorem Acd (n:Nat):decDigits n≠[]:=fun e=>by
 have:=congrArg List.length e
 rw [decDigits_length] at this
 have:=nDigits_pos n
 simp at *
 omega
theorem Vb (n:Nat):(decDigits n).head?≠some 45:=by
 intro h;cases hd:decDigits n with
 | nil=>rw [hd] at h;cases h
 | cons b r=>
  rw [hd] at h;cases h;have h1:=Fv n;rw [hd] at h1;unfold decFrom at h1;have:digitVal 45=none:=by decide
  rw [this] at h1;cases h1
theorem Va {n:Nat}(h:(decDigits n).head? = some 48):n=0:=by
 rcases Nat.eq_zero_or_pos n with e|e
 ·exact e
 ·obtain ⟨x,r,h1,h2⟩:=Ace n e
  rw [h1] at h;cases h;exact absurd rfl h2
theorem Un (X:Int):Dj (itoa X)=decDigits X.natAbs∧negI (itoa X)=decide (X<0):=by
 unfold itoa;by_cases h:X<0
 ·rw [if_pos h]
  simp [Dj,negI,h]
 ·rw [if_neg h,show X.toNat=X.natAbs by omega]
  have:=Vb X.natAbs;simp [Dj,negI,this,h]
theorem Lv (X:Int):Bz (itoa X)=some X:=by
 obtain ⟨h1,h2⟩:=Un X;unfold Bz badI;rw [h1,h2,Fv];have hn:=Acd X.natAbs
 have hb:(decide (decDigits X.natAbs=[])||decide ((decDigits X.natAbs).head? = some 48)&&(decide (1<(decDigits X.natAbs).length)||decide (X<0)))=false:=by
  rw [decide_eq_false hn,Bool.false_or];by_cases h:(decDigits X.natAbs).head? = some 48
  ·have h0:=Va h
   have:X=0:=by omega
   subst this;have e0:decDigits (Int.natAbs 0)=[48]:=by rw [decDigits,dif_pos (by decide)];rfl
   rw [e0];decide
  ·rw [decide_eq_false h,Bool.false_and]
 rw [hb];simp only [Bool.false_eq_true,if_false,Option.map_some];congr 1;unfold sg;by_cases h:X<0
 ·rw [decide_eq_true h]
  simp;omega
 ·rw [decide_eq_false h]
  simp;omega
theorem Ij {s:List UInt8}{X:Int}(h:Bz s=some X):itoa X=s:=by
 unfold Bz at h;split at h
 ·cases h
 ·rename_i hb
  have hb:badI s=false:=by simpa using hb
  cases hd:decFrom 0 (Dj s) with
  | none=>rw [hd] at h;cases h
  | some n=>
   rw [hd] at h;simp only [Option.map_some,Option.some.injEq] at h;unfold badI at hb;simp only [Bool.or_eq_false_iff,Bool.and_eq_false_iff,decide_eq_false_iff_not] at hb;obtain ⟨b1,b2⟩:=hb
   have hc:(Dj s).head?≠some 48∨(Dj s).length=1:=by
    rcases b2 with b2|b2
    ·exact .inl b2
    ·refine .inr ?_
     have:=List.length_pos_iff.2 b1;omega
   obtain ⟨d1,d2⟩:=Kr _ _ rfl n hd b1 hc;unfold sg at h;by_cases hs:s.head? = some 45
   ·have hneg:negI s=true:=by simp [negI,hs]
    rw [hneg] at h b2
    have hbody:s=45::Dj s:=by
     cases s with
     | nil=>cases hs
     | cons c r=>
      cases hs;rfl
    have hn0:0<n:=by
     refine d2 ?_;rcases b2 with b2|b2
     ·exact b2
     ·cases b2.2
    simp only [if_true] at h;subst h;unfold itoa;rw [if_pos (by omega),show (-(n:Int)).natAbs=n by omega,d1,←hbody]
   ·have hneg:negI s=false:=by simp [negI,hs]
    rw [hneg] at h;have hbody:s=Dj s:=by simp [Dj,hs]
    simp only [Bool.false_eq_true,if_false] at h;subst h;unfold itoa;rw [if_neg (by omega),show ((n:Int)).toNat=n by omega,d1,←hbody]
theorem Gd {X:Int}{c:UInt8}(h1:c≠45)(h2:digitVal c=none):c∉itoa X:=by
 have hd:∀ n,c∉decDigits n:=fun n hm=>by
  obtain ⟨k,hk⟩:=List.getElem?_of_mem hm;obtain ⟨d,hd⟩:=digit_of_decFrom _ _ _ (Fv n) k c hk;rw [h2] at hd;cases hd
 unfold itoa;split
 ·intro hm
  rcases List.mem_cons.1 hm with e|e
  ·exact h1 e
  ·exact hd _ e
 ·exact hd _
/-! Fractions. -/
def Dx (s:List UInt8):Option Rat:=
 match cutL 47 s with
 | none=>(Bz s).map fun (n:Int)=>(n:Rat)
 | some p=>match Bz p.1,Bz p.2 with
  | some n,some d=>if 1<d∧Int.gcd n d=1 then some (Rat.divInt n d) else none
  | _,_=>none
theorem Jw {n d:Int}(hd:0<d)(hg:Int.gcd n d=1):(Rat.divInt n d).num=n∧((Rat.divInt n d).den:Int)=d:=by
 obtain ⟨k,rfl⟩:∃ k:Nat,d=(k:Int):=⟨d.toNat,by omega⟩
 have hk:k≠0:=by omega
 have hc:n.natAbs.Coprime k:=by
  have:Int.gcd n (k:Int)=Nat.gcd n.natAbs k:=by simp [Int.gcd]
  rw [this] at hg;exact hg
 have e:Rat.divInt n (k:Int)=⟨n,k,hk,hc⟩:=by
  rw [Rat.divInt_ofNat];exact (Rat.mk_eq_mkRat n k hk hc).symm
 rw [e];exact ⟨rfl,rfl⟩
theorem Tk (x:Rat):Dx (An x)=some x:=by
 have h47:digitVal 47=none:=by decide
 have hf:(47:UInt8)∉itoa x.num:=Gd (by decide) h47;unfold Dx An;by_cases h:x.den=1
 ·rw [if_pos h,Oe hf]
  simp only [Lv,Option.map_some];congr 1;apply Rat.ext
  ·simp
  ·simp [h]
 ·rw [if_neg h,Sm hf]
  simp only [Lv];have hp:=x.den_pos
  have hg:Int.gcd x.num (x.den:Int)=1:=by
   have:=x.reduced;unfold Int.gcd;simpa using this
  rw [if_pos ⟨by omega,hg⟩];congr 1;have:=Rat.num_divInt_den x;exact this
theorem Sy {s:List UInt8}{x:Rat}(h:Dx s=some x):An x=s:=by
 unfold Dx at h;cases hc:cutL 47 s with
 | none=>
  rw [hc] at h;simp only at h;cases hr:Bz s with
  | none=>rw [hr] at h;cases h
  | some n=>
   rw [hr] at h;simp only [Option.map_some,Option.some.injEq] at h;subst h;unfold An;rw [if_pos (by simp)];have:=Ij hr;simpa using this
 | some p=>
  rw [hc] at h;simp only at h;obtain ⟨f,b⟩:=p;cases hr:Bz f with
  | none=>rw [hr] at h;cases h
  | some n=>
   cases hq:Bz b with
   | none=>rw [hr,hq] at h;cases h
   | some d=>
    rw [hr,hq] at h;simp only at h;split at h
    ·rename_i hd
     cases h;obtain ⟨e1,e2⟩:=Jw (by omega) hd.2;unfold An;rw [if_neg (by omega),e1,e2,Ij hr,Ij hq];exact (Hv hc).1.symm
    ·cases h
def Fm (w:List UInt8):Option Int:=
 if w=Bm 1 then some 1 else if w=Bm 2 then some 2 else if w=Bm 3 then some 3 else if w=Bm 4 then some 4 else if w=Bm 5 then some 5 else none
def nmL (d:PD):List UInt8:=d.nm.data.toList
theorem Ua {c:UInt8}(h:Hc c=false){l:List UInt8}(hl:Eq l=true):c∉l:=by
 intro hc;unfold Eq at hl;simp only [Bool.and_eq_true,List.all_eq_true] at hl;rw [hl.2.2.2.2 c hc] at h;cases h
theorem Iy {x:Rat}{c:UInt8}(h1:c≠45)(h2:digitVal c=none)(h3:c≠47):c∉An x:=by
 unfold An;split
 ·exact Gd h1 h2
 ·intro hm
  rcases List.mem_append.1 hm with h|h
  ·exact Gd h1 h2 h
  ·rcases List.mem_cons.1 h with h|h
   ·exact h3 h
   ·exact Gd h1 h2 h
theorem Xe {c:UInt8}(h:c=32∨c=10)(kd:Int):c∉Bm kd:=by
 unfold Bm;rcases h with rfl|rfl<;>(split<;>(try split)<;>(try split)<;>(try split)<;>(try split)<;>decide)
theorem Eh {n:Int}(h0:0≤n)(h:n≤1073741824):(itoa n).length≤10:=by
 unfold itoa;rw [if_neg (by omega),decDigits_length];rcases Nat.lt_or_ge 10 (nDigits n.toNat) with hk|hk
 ·rcases Nat.eq_zero_or_pos n.toNat with e|e
  ·rw [e,nDigits_small (by omega)] at hk
   omega
  ·have h1:=Cd n.toNat e
   have h2:10 ^ 10≤10 ^ (nDigits n.toNat-1):=Nat.pow_le_pow_right (by omega) (by omega);omega
 ·exact hk
theorem Ul {kd:Int}(h:1≤kd∧kd≤5):Fm (Bm kd)=some kd:=by
 obtain ⟨h1,h2⟩:=h;have:kd=1∨kd=2∨kd=3∨kd=4∨kd=5:=by omega
 rcases this with rfl|rfl|rfl|rfl|rfl<;>decide
theorem Vz {d:PD}(h:okPD d):1≤d.kd∧d.kd≤5:=by
 have:=h.2.2.2;unfold mayP mayO mayS at this;simp only [Bool.and_eq_true,decide_eq_true_eq] at this;obtain ⟨-,-,h3⟩:=this;split at h3
 ·omega
 ·split at h3
  ·omega
  ·split at h3
   ·omega
   ·split at h3
    ·omega
    ·split at h3
     ·omega
     ·cases h3
theorem La {d:PD}(h:okPD d):0≤d.co∧d.co≤1073741824:=by
 have:=h.2.2.2;unfold mayP at this;simp only [Bool.and_eq_true,decide_eq_true_eq] at this;exact ⟨this.1,this.2.1⟩
theorem Hn {x:Rat}(h:(x.num.sign==0)=true):x=0:=by
 have h1:=Int.sign_eq_zero_iff_zero.1 (eq_of_beq h);exact Rat.num_eq_zero.1 h1
theorem Ro {d:PD}(h:okPD d):(Ep d.kd<1→d.p=0)∧(Ep d.kd<2→d.q=0):=by
 have hk:=Vz h;have:=h.2.2.2;unfold mayP mayO at this;simp only [Bool.and_eq_true,decide_eq_true_eq] at this;obtain ⟨-,-,h3⟩:=this;have hc:d.kd=1∨d.kd=2∨d.kd=3∨d.kd=4∨d.kd=5:=by omega
 rcases hc with e|e|e|e|e<;>rw [e] at h3 ⊢
 ·simp only [mayS,if_true,Bool.and_eq_true] at h3
  exact ⟨fun h=>absurd h (by decide),fun _=>Hn h3.2⟩
 ·have h3:(d.q.num.sign==0)=true:=h3
  exact ⟨fun h=>absurd h (by decide),fun _=>Hn h3⟩
 ·exact ⟨fun h=>absurd h (by decide),fun h=>absurd h (by decide)⟩
 ·exact ⟨fun h=>absurd h (by decide),fun h=>absurd h (by decide)⟩
 ·have h3:((d.p.num.sign==0)&&(d.q.num.sign==0))=true:=h3
  rw [Bool.and_eq_true] at h3;exact ⟨fun _=>Hn h3.1,fun _=>Hn h3.2⟩
abbrev WL:=List (List UInt8)
structure EL where
 kd:Int
 p:Rat
 q:Rat
def frE (e:EL):List Rat:=[e.p,e.q].take (Ep e.kd)
def wdE (e:EL):WL:=Bm e.kd::(frE e).map An
def okE (e:EL):Prop:=nf e.p≤2048∧nf e.q≤2048∧mayO e.kd (some e.p) (some e.q)=true
/-! Words that are taken. -/
def tF:WL→Option (Rat×WL)
 | []=>none
 | w::r=>(Dx w).bind fun x=>if nf x≤2048 then some (x,r) else none
def tFs:Nat→WL→Option (List Rat×WL)
 | 0,ws=>some ([],ws)
 | n+1,ws=>(tF ws).bind fun x=>(tFs n x.2).map fun y=>(x.1::y.1,y.2)
def numA (w:List UInt8):Option Int:=match Lib.atoiAll w with
 | .ok n=>if itoa n=w then some n else none
 | _=>none
def tN:WL→Option (Int×WL)
 | []=>none
 | w::r=>(numA w).map fun n=>(n,r)
def tNs:Nat→WL→Option (List Int×WL)
 | 0,ws=>some ([],ws)
 | n+1,ws=>(tN ws).bind fun x=>(tNs n x.2).map fun y=>(x.1::y.1,y.2)
def tE:WL→Option (EL×WL)
 | []=>none
 | w::r=>(Fm w).bind fun k=>(tFs (Ep k) r).map fun x=>(⟨k,x.1.getD 0 0,x.1.getD 1 0⟩,x.2)
def tEs:Nat→WL→Option (List EL)
 | _,[]=>some []
 | 0,_::_=>none
 | f+1,w::r=>(tE (w::r)).bind fun x=>(tEs f x.2).map fun y=>x.1::y
def tP:WL→Option (PD×WL)
 | []=>none
 | w::r=>(tN r).bind fun n=>(tE n.2).map fun e=>(⟨⟨w.toArray⟩,e.1.kd,e.1.p,e.1.q,n.1⟩,e.2)
def tPs:Nat→WL→Option (List PD)
 | _,[]=>some []
 | 0,_::_=>none
 | f+1,w::r=>(tP (w::r)).bind fun x=>(tPs f x.2).map fun y=>x.1::y
def elP (d:PD):EL:=⟨d.kd,d.p,d.q⟩
def wdP (d:PD):WL:=nmL d::itoa d.co::wdE (elP d)
structure TK where
 sp:List Rat
 pt:List PD
 tg:Rat
inductive PF where
 | bound (l:List EL) (y u m:Rat)
 | leaves (l:List EL) (y u m:Rat) (n:Int)
 | best (t:TK) (pk:List Int) (pw:Rat) (co:Int)
def wStays:List UInt8:=[115,116,97,121,115]
def Bv:List UInt8:=[108,101,97,118,101,115]
def Fd:List UInt8:=[98,101,115,116]
def Cj:PF→WL
 | .bound l y u m=>wStays::([y,u,m].map An++l.flatMap wdE)
 | .leaves l y u m n=>Bv::([y,u,m].map An++itoa n::l.flatMap wdE)
 | .best t pk pw co=>Fd::An t.tg::itoa pk.length::(t.sp.map An++(pk.map itoa++An pw::itoa co::t.pt.flatMap wdP))
def Aw (x:PF):List UInt8:=Ai 32 (Cj x)
def okB (l:List EL):Prop:=l.length≤4096∧∀ e∈l,okE e
def okT (t:TK):Prop:=2≤t.sp.length∧t.sp.length≤13∧1≤t.pt.length∧t.pt.length≤64∧nf t.tg≤2048∧(∀ x∈t.sp,nf x≤2048∧0≤x.num)∧(∀ d∈t.pt,okPD d)∧(t.pt.map nmL).Nodup∧t.pt.length ^ (t.sp.length-1)≤65536
def okPF:PF→Prop
 | .bound l y u m=>okB l∧nf y≤2048∧nf u≤2048∧nf m≤2048
 | .leaves l y u m n=>okB l∧nf y≤2048∧nf u≤2048∧nf m≤2048∧0≤n∧n≤4096
 | .best t pk pw co=>okT t∧pk.length+1=t.sp.length∧(∀ k∈pk,0≤k∧k<(t.pt.length:Int))∧nf pw≤2048∧0≤co∧co≤9223372036854775807
def Ce (r:WL):Option PF:=
 (tF r).bind fun tg=>(tN tg.2).bind fun n=>
  if 1≤n.1∧n.1≤(n.2.length:Int) then
   (tFs (n.1.toNat+1) n.2).bind fun sp=>(tNs n.1.toNat sp.2).bind fun pk=>(tF pk.2).bind fun pw=>(tN pw.2).bind fun co=>
    (tPs co.2.length co.2).map fun pt=>.best ⟨sp.1,pt,tg.1⟩ pk.1 pw.1 co.1
  else none
def tPF:WL→Option PF
 | []=>none
 | w::r=>
  if w=wStays then (tFs 3 r).bind fun x=>(tEs x.2.length x.2).map fun l=>.bound l (x.1.getD 0 0) (x.1.getD 1 0) (x.1.getD 2 0)
  else if w=Bv then (tFs 3 r).bind fun x=>(tN x.2).bind fun n=>(tEs n.2.length n.2).map fun l=>.leaves l (x.1.getD 0 0) (x.1.getD 1 0) (x.1.getD 2 0) n.1
  else if w=Fd then Ce r
  else none
/-! Both ways, piece by piece. -/
theorem Tx:nf 0≤2048:=by
 unfold nf nl;rw [show (0:Rat).num=0 from rfl,show (((0:Rat).den:Nat):Int)=1 from rfl,show (1:Int).natAbs=1 from rfl,show (0:Int).natAbs=0 from rfl,Az,Ht (by omega) (by omega)];decide
theorem Ry {l:List UInt8}{k:Int}(h:Fm l=some k):Bm k=l:=by
 unfold Fm at h
 repeat' split at h
 all_goals first
  | (rename_i e;cases h;exact e.symm)
  | cases h
theorem On {x:Rat}(h:nf x≤2048)(r:WL):tF (An x::r)=some (x,r):=by
 simp only [tF,Tk,Option.bind_some,if_pos h]
theorem Do {ws r:WL}{x:Rat}(h:tF ws=some (x,r)):ws=An x::r∧nf x≤2048:=by
 cases ws with
 | nil=>cases h
 | cons w t=>
  simp only [tF,Option.bind_eq_some_iff] at h;obtain ⟨y,hy,h⟩:=h;split at h
  ·rename_i hn
   simp only [Option.some.injEq,Prod.mk.injEq] at h;obtain ⟨rfl,rfl⟩:=h;exact ⟨by rw [Sy hy],hn⟩
  ·cases h
theorem Gx:∀ (l:List Rat) (r:WL),(∀ x∈l,nf x≤2048)→tFs l.length (l.map An++r)=some (l,r)
 | [],r,_=>rfl
 | x::l,r,h=>by
  show tFs (l.length+1) (An x::(l.map An++r))=_
  rw [tFs,On (h x (by simp))]
  simp only [Option.bind_some]
  rw [Gx l r fun y hy=>h y (List.mem_cons_of_mem _ hy)]
  rfl
theorem Gy:∀ (n:Nat) (ws:WL) (l:List Rat) (r:WL),tFs n ws=some (l,r)→ws=l.map An++r∧l.length=n∧∀ x∈l,nf x≤2048
 | 0,ws,l,r,h=>by
  simp only [tFs,Option.some.injEq,Prod.mk.injEq] at h
  obtain ⟨rfl,rfl⟩:=h
  exact ⟨rfl,rfl,fun x hx=>by cases hx⟩
 | n+1,ws,l,r,h=>by
  simp only [tFs,Option.bind_eq_some_iff,Option.map_eq_some_iff] at h
  obtain ⟨⟨x,t⟩,hx,⟨m,r'⟩,hm,e⟩:=h
  simp only [Prod.mk.injEq] at e
  obtain ⟨rfl,rfl⟩:=e
  obtain ⟨rfl,h1⟩:=Do hx
  obtain ⟨rfl,h2,h3⟩:=Gy n _ _ _ hm
  refine ⟨rfl,by simp [h2],fun y hy=>?_⟩
  rcases List.mem_cons.1 hy with rfl|hy
  ·exact h1
  ·exact h3 y hy
theorem Wx:∀ (l:List UInt8) (acc n:Nat),Lib.decFrom acc l=some n→acc≤n
 | [],acc,n,h=>by
  simp only [Lib.decFrom,Option.some.injEq] at h
  omega
 | c::r,acc,n,h=>by
  unfold Lib.decFrom at h
  split at h
  ·have:=Wx r _ n h
   omega
  ·cases h
theorem Sl:∀ (l:List UInt8) (acc n:Nat),Lib.decFrom acc l=some n→n<10000000000000000000→Lib.parseUint10 acc l=.ok n
 | [],acc,n,h,_=>by
  simp only [Lib.decFrom,Option.some.injEq] at h
  rw [h]
  rfl
 | c::r,acc,n,h,hn=>by
  unfold Lib.decFrom at h
  split at h
  ·rename_i d hd
   have hge:=Wx r _ n h
   obtain ⟨d1,d2,rfl⟩:=Lib.digitVal_eq hd
   simp only [Lib.parseUint10]
   rw [if_pos ⟨d1,d2⟩,if_neg (by omega),if_neg (by omega)]
   exact Sl r _ n h hn
  ·cases h
theorem Acr {n:Int}(h0:0≤n)(h1:n≤9223372036854775807):Lib.atoiAll (itoa n)=.ok n:=by
 have hd:=Fv n.toNat
 have e:itoa n=Lib.decDigits n.toNat:=by
  unfold Lib.itoa;rw [if_neg (by omega)]
 rw [e];cases hl:Lib.decDigits n.toNat with
 | nil=>exact absurd hl (Acd _)
 | cons c r=>
  rw [hl] at hd;obtain ⟨d,hc⟩:=Lib.digit_of_decFrom _ _ _ hd 0 c rfl;obtain ⟨c1,c2,-⟩:=Lib.digitVal_eq hc;rw [Lib.atoiAll_plain c r (by omega) (by omega)];unfold Lib.parseMag;rw [if_neg (by simp),Sl _ _ _ hd (by omega)];show (if 9223372036854775808≤n.toNat then Lib.NumEnd.range else .ok ((n.toNat:Nat):Int))=_
  rw [if_neg (by omega),Int.toNat_of_nonneg h0]
theorem Yk {n:Int}(h0:0≤n)(h1:n≤9223372036854775807):numA (itoa n)=some n:=by
 unfold numA;rw [Acr h0 h1];exact if_pos rfl
theorem Yl {w:List UInt8}{n:Int}(h:numA w=some n):itoa n=w:=by
 unfold numA at h;split at h
 ·split at h
  ·rename_i hm
   cases h;exact hm
  ·cases h
 ·cases h
theorem Ip {n:Int}(h0:0≤n)(h1:n≤9223372036854775807)(r:WL):tN (itoa n::r)=some (n,r):=by
 simp only [tN,Yk h0 h1,Option.map_some]
theorem Iq {ws r:WL}{n:Int}(h:tN ws=some (n,r)):ws=itoa n::r:=by
 cases ws with
 | nil=>cases h
 | cons w t=>
  simp only [tN,Option.map_eq_some_iff,Prod.mk.injEq] at h;obtain ⟨m,hm,rfl,rfl⟩:=h;rw [Yl hm]
theorem Qn:∀ (l:List Int) (r:WL),(∀ x∈l,0≤x∧x≤9223372036854775807)→tNs l.length (l.map itoa++r)=some (l,r)
 | [],r,_=>rfl
 | x::l,r,h=>by
  show tNs (l.length+1) (itoa x::(l.map itoa++r))=_
  rw [tNs,Ip (h x (by simp)).1 (h x (by simp)).2]
  simp only [Option.bind_some]
  rw [Qn l r fun y hy=>h y (List.mem_cons_of_mem _ hy)]
  rfl
theorem Qp:∀ (n:Nat) (ws:WL) (l:List Int) (r:WL),tNs n ws=some (l,r)→ws=l.map itoa++r∧l.length=n
 | 0,ws,l,r,h=>by
  simp only [tNs,Option.some.injEq,Prod.mk.injEq] at h
  obtain ⟨rfl,rfl⟩:=h
  exact ⟨rfl,rfl⟩
 | n+1,ws,l,r,h=>by
  simp only [tNs,Option.bind_eq_some_iff,Option.map_eq_some_iff] at h
  obtain ⟨⟨x,t⟩,hx,⟨m,r'⟩,hm,e⟩:=h
  simp only [Prod.mk.injEq] at e
  obtain ⟨rfl,rfl⟩:=e
  rw [Iq hx]
  obtain ⟨rfl,h2⟩:=Qp n _ _ _ hm
  exact ⟨rfl,by simp [h2]⟩
theorem Aba {e:EL}(h:okE e):1≤e.kd∧e.kd≤5:=
 Vz (d:=⟨⟨#[97]⟩,e.kd,e.p,e.q,0⟩) ⟨h.1,h.2.1,(show Eq ([97]:List UInt8)=true by decide),by
  unfold mayP
  simp [h.2.2]⟩
theorem Tt {e:EL}(h:okE e):(Ep e.kd<1→e.p=0)∧(Ep e.kd<2→e.q=0):=
 Ro (d:=⟨⟨#[97]⟩,e.kd,e.p,e.q,0⟩) ⟨h.1,h.2.1,(show Eq ([97]:List UInt8)=true by decide),by
  unfold mayP
  simp [h.2.2]⟩
theorem Ad9 (e:EL):(frE e).length=Ep e.kd:=by
 have:=Lh e.kd;simp [frE,List.length_take];omega
theorem Af8 {e:EL}(h1:nf e.p≤2048)(h2:nf e.q≤2048):∀ x∈frE e,nf x≤2048:=fun x hx=>by
 have:=List.mem_of_mem_take hx
 simp only [List.mem_cons,List.not_mem_nil,or_false] at this
 rcases this with rfl|rfl
 ·exact h1
 ·exact h2
theorem Aea {e:EL}(h1:Ep e.kd<1→e.p=0)(h2:Ep e.kd<2→e.q=0):(frE e).getD 0 0=e.p∧(frE e).getD 1 0=e.q:=by
 have:=Lh e.kd;unfold frE;generalize Ep e.kd=n at *
 match n,this with
 | 0,_=>simp [h1 (by omega),h2 (by omega)]
 | 1,_=>simp [h2 (by omega)]
 | 2,_=>simp
theorem Vq {e:EL}(h:okE e)(r:WL):tE (wdE e++r)=some (e,r):=by
 show tE (Bm e.kd::((frE e).map An++r))=_
 obtain ⟨h1,h2⟩:=Tt h;obtain ⟨g1,g2⟩:=Aea h1 h2;simp only [tE,Ul (Aba h),Option.bind_some];rw [←Ad9 e,Gx _ _ (Af8 h.1 h.2.1)];simp only [Option.map_some,g1,g2]
theorem Af7 {k:Int}:∀ {l:List Rat},l.length=Ep k→frE ⟨k,l.getD 0 0,l.getD 1 0⟩=l:=by
 intro l h;have:=Lh k;unfold frE;rw [←h] at this ⊢
 match l,this with
 | [],_=>rfl
 | [_],_=>rfl
 | [_,_],_=>rfl
 | _::_::_::_,h=>simp at h
theorem Is {ws r:WL}{e:EL}(h:tE ws=some (e,r)):ws=wdE e++r∧nf e.p≤2048∧nf e.q≤2048∧1≤e.kd∧e.kd≤5:=by
 cases ws with
 | nil=>cases h
 | cons w t=>
  simp only [tE,Option.bind_eq_some_iff,Option.map_eq_some_iff,Prod.mk.injEq] at h;obtain ⟨k,hk,⟨l,r'⟩,hl,rfl,rfl⟩:=h;obtain ⟨rfl,h1,h2⟩:=Gy _ _ _ _ hl
  have hn:∀ i,nf (l.getD i 0)≤2048:=fun i=>by
   rw [List.getD_eq_getElem?_getD];cases hg:l[i]? with
   | none=>exact Tx
   | some x=>exact h2 x (List.mem_of_getElem? hg)
  refine ⟨?_,hn 0,hn 1,?_⟩
  ·show _=Bm k::((frE ⟨k,l.getD 0 0,l.getD 1 0⟩).map An++r')
   rw [Af7 h1,Ry hk]
  ·show 1≤k∧k≤5
   unfold Fm at hk
   repeat' split at hk
   all_goals first
    | (cases hk;constructor<;>decide)
    | cases hk
theorem Lm:∀ (l:List EL) (f:Nat),(∀ e∈l,okE e)→l.length≤f→tEs f (l.flatMap wdE)=some l
 | [],f,_,_=>by cases f<;>rfl
 | e::l,0,_,h=>by simp at h
 | e::l,f+1,h,hf=>by
  have e1:(e::l).flatMap wdE=Bm e.kd::((frE e).map An++l.flatMap wdE):=by simp [wdE]
  have e2:=Vq (h e (by simp)) (l.flatMap wdE)
  rw [show wdE e++l.flatMap wdE=Bm e.kd::((frE e).map An++l.flatMap wdE) from rfl] at e2
  rw [e1,tEs,e2]
  simp only [Option.bind_some]
  rw [Lm l f (fun x hx=>h x (List.mem_cons_of_mem _ hx)) (by simp at hf;omega)]
  rfl
theorem Ln:∀ (f:Nat) (ws:WL) (l:List EL),tEs f ws=some l→ws=l.flatMap wdE∧l.length≤f
 | f,[],l,h=>by
  have:l=[]:=by cases f<;>(simp only [tEs,Option.some.injEq] at h;exact h.symm)
  subst this
  exact ⟨rfl,Nat.zero_le _⟩
 | 0,_::_,l,h=>by cases h
 | f+1,w::t,l,h=>by
  simp only [tEs,Option.bind_eq_some_iff,Option.map_eq_some_iff] at h
  obtain ⟨⟨e,r⟩,he,m,hm,rfl⟩:=h
  obtain ⟨e1,h1⟩:=Ln f _ _ hm
  replace e1:r=_:=e1
  rw [(Is he).1,e1]
  exact ⟨by simp,by simp;omega⟩
theorem Afv (w:List UInt8)(a b:Int)(p q:Rat):nmL ⟨⟨w.toArray⟩,a,p,q,b⟩=w:=by simp [nmL]
theorem Ts {d:PD}(h:okPD d):okE (elP d):=by
 refine ⟨h.1,h.2.1,?_⟩;have:=h.2.2.2;unfold mayP at this;simp only [Bool.and_eq_true] at this;exact this.2.2
theorem Acw {d:PD}(h:okPD d)(r:WL):tP (wdP d++r)=some (d,r):=by
 show tP (nmL d::(itoa d.co::(wdE (elP d)++r)))=_
 have hc:=La h;simp only [tP,Ip hc.1 (Int.le_trans hc.2 (by decide)),Option.bind_some,Vq (Ts h),Option.map_some];rfl
theorem Vp {ws r:WL}{d:PD}(h:tP ws=some (d,r)):ws=wdP d++r:=by
 cases ws with
 | nil=>cases h
 | cons w t=>
  simp only [tP,Option.bind_eq_some_iff,Option.map_eq_some_iff,Prod.mk.injEq] at h;obtain ⟨⟨n,r1⟩,hn,⟨e,r2⟩,he,rfl,rfl⟩:=h;have e1:r1=_:=(Is he).1;rw [Iq hn,e1];simp only [wdP,Afv];rfl
theorem Qk:∀ (l:List PD) (f:Nat),(∀ e∈l,okPD e)→l.length≤f→tPs f (l.flatMap wdP)=some l
 | [],f,_,_=>by cases f<;>rfl
 | e::l,0,_,h=>by simp at h
 | e::l,f+1,h,hf=>by
  have e1:(e::l).flatMap wdP=nmL e::(itoa e.co::(wdE (elP e)++l.flatMap wdP)):=by simp [wdP]
  have e2:=Acw (h e (by simp)) (l.flatMap wdP)
  rw [show wdP e++l.flatMap wdP=nmL e::(itoa e.co::(wdE (elP e)++l.flatMap wdP)) from rfl] at e2
  rw [e1,tPs,e2]
  simp only [Option.bind_some]
  rw [Qk l f (fun x hx=>h x (List.mem_cons_of_mem _ hx)) (by simp at hf;omega)]
  rfl
theorem Qm:∀ (f:Nat) (ws:WL) (l:List PD),tPs f ws=some l→ws=l.flatMap wdP∧l.length≤f
 | f,[],l,h=>by
  have:l=[]:=by cases f<;>(simp only [tPs,Option.some.injEq] at h;exact h.symm)
  subst this
  exact ⟨rfl,Nat.zero_le _⟩
 | 0,_::_,l,h=>by cases h
 | f+1,w::t,l,h=>by
  simp only [tPs,Option.bind_eq_some_iff,Option.map_eq_some_iff] at h
  obtain ⟨⟨e,r⟩,he,m,hm,rfl⟩:=h
  obtain ⟨e1,h1⟩:=Qm f _ _ hm
  replace e1:r=_:=e1
  rw [Vp he,e1]
  exact ⟨by simp,by simp;omega⟩
theorem Vn (e:EL):1≤(wdE e).length:=by simp [wdE]
theorem Wj (l:List EL):l.length≤(l.flatMap wdE).length:=by
 induction l with
 | nil=>simp
 | cons e l ih=>
  have:=Vn e;simp only [List.flatMap_cons,List.length_append,List.length_cons];omega
theorem Ady (l:List PD):l.length≤(l.flatMap wdP).length:=by
 induction l with
 | nil=>simp
 | cons e l ih=>
  have:1≤(wdP e).length:=by simp [wdP]
  simp only [List.flatMap_cons,List.length_append,List.length_cons];omega
/-! Whole proofs. -/
theorem Xi {x:PF}(h:okPF x):tPF (Cj x)=some x:=by
 cases x with
 | bound l y u m=>
  obtain ⟨hb,h1,h2,h3⟩:=h;have e:=Gx [y,u,m] (l.flatMap wdE) (by simp [h1,h2,h3]);simp only [Cj,tPF];rw [show (3:Nat)=[y,u,m].length from rfl,e];simp only [Option.bind_some];rw [Lm l _ hb.2 (Wj l)];rfl
 | leaves l y u m n=>
  obtain ⟨hb,h1,h2,h3,h4,h5⟩:=h;have e:=Gx [y,u,m] (itoa n::l.flatMap wdE) (by simp [h1,h2,h3]);simp only [Cj,tPF];rw [if_neg (by decide),if_pos trivial,show (3:Nat)=[y,u,m].length from rfl,e];simp only [Option.bind_some];rw [Ip h4 (by omega)];simp only [Option.bind_some];rw [Lm l _ hb.2 (Wj l)];rfl
 | best t pk pw co=>
  obtain ⟨⟨s1,s2,s3,s4,s5,s6,s7,s8,s9⟩,h1,h2,h3,h4,h5⟩:=h
  have hp:∀ k∈pk,0≤k∧k≤9223372036854775807:=fun k hk=>by
   have:=h2 k hk;omega
  simp only [Cj,tPF];rw [if_neg (by decide),if_neg (by decide),if_pos trivial];unfold Ce;rw [On s5];simp only [Option.bind_some];rw [Ip (by omega) (by omega)];simp only [Option.bind_some];rw [if_pos ⟨by omega,by simp only [List.length_append,List.length_map];omega⟩];rw [show (pk.length:Int).toNat+1=t.sp.length by omega,Gx t.sp _ fun x hx=>(s6 x hx).1];simp only [Option.bind_some,Int.toNat_natCast];rw [Qn pk _ hp];simp only [Option.bind_some];rw [On h3];simp only [Option.bind_some];rw [Ip h4 h5];simp only [Option.bind_some];rw [Qk t.pt _ s7 (Ady _)];rfl
theorem Xc {ws:WL}{x:PF}(h:tPF ws=some x)(hx:okPF x):Cj x=ws:=by
 cases ws with
 | nil=>cases h
 | cons w r=>
  have h3:∀ {l:List Rat},l.length=3→[l.getD 0 0,l.getD 1 0,l.getD 2 0]=l:=by
   intro l h
   match l,h with
   | [_,_,_],_=>rfl
  simp only [tPF] at h;split at h
  ·rename_i hw
   subst hw;simp only [Option.bind_eq_some_iff,Option.map_eq_some_iff] at h;obtain ⟨⟨l,r1⟩,hl,b,hb,rfl⟩:=h;obtain ⟨rfl,e1,-⟩:=Gy _ _ _ _ hl;obtain ⟨e2,-⟩:=Ln _ _ _ hb;simp only [Cj];rw [h3 e1,←e2]
  ·split at h
   ·rename_i hw
    subst hw;simp only [Option.bind_eq_some_iff,Option.map_eq_some_iff] at h;obtain ⟨⟨l,r1⟩,hl,⟨n,r2⟩,hn,b,hb,rfl⟩:=h;obtain ⟨rfl,e1,-⟩:=Gy _ _ _ _ hl;have e3:=Iq hn;obtain ⟨e2,-⟩:=Ln _ _ _ hb;simp only [Cj];rw [h3 e1,←e2,←e3]
   ·split at h
    ·rename_i hw
     subst hw;unfold Ce at h;simp only [Option.bind_eq_some_iff] at h;obtain ⟨⟨tg,r1⟩,h1,⟨n,r2⟩,h2,h⟩:=h;split at h
     ·rename_i hn
      simp only [Option.bind_eq_some_iff,Option.map_eq_some_iff] at h;obtain ⟨⟨sp,r3⟩,h4,⟨pk,r4⟩,h5,⟨pw,r5⟩,h6,⟨co,r6⟩,h7,pt,h8,rfl⟩:=h;obtain ⟨e1,-⟩:=Do h1;have e2:=Iq h2;obtain ⟨e4,e4',-⟩:=Gy _ _ _ _ h4;obtain ⟨e5,e5'⟩:=Qp _ _ _ _ h5;obtain ⟨e6,-⟩:=Do h6;have e7:=Iq h7;obtain ⟨e8,-⟩:=Qm _ _ _ h8;simp only at e1 e2 e4 e5 e6 e7 e8 e5' hn;have hk:((pk.length:Nat):Int)=n:=by omega
      simp only [Cj];rw [←e8,←e7,←e6,←e5,hk,←e4,←e2,←e1]
     ·cases h
    ·cases h
/-! Texts. -/
theorem Kk (c:UInt8):∀ ws:WL,ws≠[]→(∀ x∈ws,c∉x)→Ar c (Ai c ws)=ws
 | [],h,_=>absurd rfl h
 | [x],_,h=>Kj (h x (by simp))
 | x::y::r,_,h=>by
  show Ar c (x++c::Ai c (y::r))=_
  rw [Kl (h x (by simp)),Kk c (y::r) (by simp) fun z hz=>h z (List.mem_cons_of_mem _ hz)]
theorem Li (e:EL):∀ x∈wdE e,(32:UInt8)∉x:=fun x hx=>by
 rcases List.mem_cons.1 hx with rfl|hx
 ·exact Xe (.inl rfl) _
 ·obtain ⟨y,-,rfl⟩:=List.mem_map.1 hx
  exact Iy (by decide) (by decide) (by decide)
theorem Ok {x:PF}(h:okPF x):∀ y∈Cj x,(32:UInt8)∉y:=by
 have hf:∀ x:Rat,(32:UInt8)∉An x:=fun x=>Iy (by decide) (by decide) (by decide);have hi:∀ n:Int,(32:UInt8)∉itoa n:=fun n=>Gd (by decide) (by decide);intro y hy;cases x with
 | bound l a b c=>
  simp only [Cj,List.mem_cons,List.mem_append,List.mem_map,List.mem_flatMap] at hy;rcases hy with rfl|⟨z,-,rfl⟩|⟨e,-,he⟩
  ·decide
  ·exact hf _
  ·exact Li _ _ he
 | leaves l a b c n=>
  simp only [Cj,List.mem_cons,List.mem_append,List.mem_map,List.mem_flatMap] at hy;rcases hy with rfl|⟨z,-,rfl⟩|rfl|⟨e,-,he⟩
  ·decide
  ·exact hf _
  ·exact hi _
  ·exact Li _ _ he
 | best t pk pw co=>
  simp only [Cj,List.mem_cons,List.mem_append,List.mem_map,List.mem_flatMap] at hy;rcases hy with rfl|rfl|rfl|⟨z,-,rfl⟩|⟨z,-,rfl⟩|rfl|rfl|⟨d,hd,he⟩
  ·decide
  ·exact hf _
  ·exact hi _
  ·exact hf _
  ·exact hi _
  ·exact hf _
  ·exact hi _
  ·rcases List.mem_cons.1 he with rfl|he
   ·exact Ua (by decide) (h.1.2.2.2.2.2.2.1 d hd).2.2.1
   ·rcases List.mem_cons.1 he with rfl|he
    ·exact hi _
    ·exact Li _ _ he
theorem Su (x:PF):Cj x≠[]:=by cases x<;>simp [Cj]
theorem Aaj {x:PF}(h:okPF x):tPF (Ar 32 (Aw x))=some x:=by
 unfold Aw;rw [Kk 32 _ (Su x) (Ok h),Xi h]
theorem Gw {s:List UInt8}{x:PF}(h:tPF (Ar 32 s)=some x)(hx:okPF x):Aw x=s:=by
 unfold Aw;rw [Xc h hx,Hf]
end Go.Proofs.YtlknpnommcohkaaGreatDoor
namespace Go.Proofs.YtlknpnommcohkaaGreatDoor
set_option maxRecDepth 100000
open Go Go.RowKit Go.Proofs
theorem Wh {α:Type}{n:Nat}{R:World→Value→Prop}{S:World→Value→α→Prop}{w:World}{s:Value}:∀ {vs:List Value},LIn n R w s vs→(∀ v∈vs,R w v→∃ a,S w v a)→∃ os:List (α×Value),os.map (·.2)=vs∧Ls n S w s os:=by
 intro vs h hS
 have:∀ l:List Value,(∀ v∈l,v∈vs)→∃ os:List (α×Value),os.map (·.2)=l∧∀ x∈os,S w x.2 x.1:=by
  intro l
  induction l with
  | nil=>exact fun _=>⟨[],rfl,fun x hx=>by cases hx⟩
  | cons v r ih=>
   intro hl;obtain ⟨os,h1,h2⟩:=ih fun y hy=>hl y (List.mem_cons_of_mem _ hy);obtain ⟨a,ha⟩:=hS v (hl v (List.mem_cons_self ..)) (h.raw v (hl v (List.mem_cons_self ..)));refine ⟨(a,v)::os,by simp [h1],fun x hx=>?_⟩;rcases List.mem_cons.1 hx with rfl|hx
   ·exact ha
   ·exact h2 x hx
 obtain ⟨os,h1,h2⟩:=this vs fun v hv=>hv;refine ⟨os,h1,?_,h2,fun x hx=>h.sz _ (by rw [←h1];exact List.mem_map_of_mem hx)⟩;have hl:os.length=vs.length:=by rw [←h1,List.length_map]
 rw [hl,h1];exact h.at'
structure RP where
 nm:ByteArray
 kd:Int
 op:Option Rat
 oq:Option Rat
 co:Int
def PrtA (w:World)(v:Value)(r:RP):Prop:=∃ p q:FV,v=.agg #[.string r.nm,.int .u8 r.kd,.bool p.b1,.slice p.a1 p.n1 p.c1,.bool p.b2,.slice p.a2 p.n2 p.c2,.bool q.b1,.slice q.a1 q.n1 q.c1,.bool q.b2,.slice q.a2 q.n2 q.c2,.int .i64 r.co]∧AnyF w (.agg #[.bool p.b1,.slice p.a1 p.n1 p.c1,.bool p.b2,.slice p.a2 p.n2 p.c2]) r.op∧AnyF w (.agg #[.bool q.b1,.slice q.a1 q.n1 q.c1,.bool q.b2,.slice q.a2 q.n2 q.c2]) r.oq∧r.nm.size≤140737488355328
def NumA (_w:World)(v:Value)(n:Int):Prop:=v=.int .i64 n
theorem PrtA.ext {w w':World}{v:Value}{r:RP}(h:PrtA w v r)(e:Ext w w'):PrtA w' v r:=by
 obtain ⟨p,q,e0,h1,h2,h3⟩:=h;exact ⟨p,q,e0,h1.ext e,h2.ext e,h3⟩
def zFV (f:FV):Bool:=!f.b1&&(!f.b2&&decide (f.n1+f.n2=0))
structure AD where
 be:List RE
 sp:List (Option Rat)
 pt:List RP
 pk:List Int
 oy:Option Rat
 ou:Option Rat
 om:Option Rat
 ot:Option Rat
 op:Option Rat
structure AnyPf (w:World) (x:PVd) (d:AD):Prop where
 be:∃ os:List (RE×Value),os.map (·.1)=d.be∧Ls 9 EltA w x.s1 os
 sp:∃ os:List (Option Rat×Value),os.map (·.1)=d.sp∧Ls 4 AnyF w x.s2 os
 pt:∃ os:List (RP×Value),os.map (·.1)=d.pt∧Ls 11 PrtA w x.s3 os
 pk:∃ os:List (Int×Value),os.map (·.1)=d.pk∧Ls 1 NumA w x.s4 os
 fy:AnyF w (.agg #[.bool x.y.b1,.slice x.y.a1 x.y.n1 x.y.c1,.bool x.y.b2,.slice x.y.a2 x.y.n2 x.y.c2]) d.oy
 fu:AnyF w (.agg #[.bool x.u.b1,.slice x.u.a1 x.u.n1 x.u.c1,.bool x.u.b2,.slice x.u.a2 x.u.n2 x.u.c2]) d.ou
 fm:AnyF w (.agg #[.bool x.m.b1,.slice x.m.a1 x.m.n1 x.m.c1,.bool x.m.b2,.slice x.m.a2 x.m.n2 x.m.c2]) d.om
 ft:AnyF w (.agg #[.bool x.tg.b1,.slice x.tg.a1 x.tg.n1 x.tg.c1,.bool x.tg.b2,.slice x.tg.a2 x.tg.n2 x.tg.c2]) d.ot
 fp:AnyF w (.agg #[.bool x.pw.b1,.slice x.pw.a1 x.pw.n1 x.pw.c1,.bool x.pw.b2,.slice x.pw.a2 x.pw.n2 x.pw.c2]) d.op
 co:x.co≤9223372036854775807
/-! What may be. -/
def mayR (r:RP):Bool:=Eq r.nm.data.toList&&(mayO r.kd r.op r.oq&&(decide (0≤r.co)&&decide (r.co≤1073741824)))
def posO:Option Rat→Bool
 | some x=>decide (0≤x.num)
 | none=>false
def mayT (d:AD):Bool:=
 (decide (2≤d.sp.length)&&(decide (d.sp.length≤13)&&(decide (1≤d.pt.length)&&(decide (d.pt.length≤64)&&d.ot.isSome)))) &&
 (d.sp.all posO&&(d.pt.all mayR&&(decide ((d.pt.map fun r=>r.nm.data.toList).Nodup)&&decide (d.pt.length ^ (d.sp.length-1)≤65536))))
def Gj (x:PVd)(d:AD):Bool:=decide (d.sp.length+d.pt.length+d.pk.length=0∧x.co=0)&&(zFV x.tg&&zFV x.pw)
def Bw (x:PVd)(d:AD):Bool:=
 if x.kd=1 then (d.be.all mayE&&decide (d.be.length≤4096))&&((d.oy.isSome&&(d.ou.isSome&&d.om.isSome))&&(Gj x d&&decide (x.st=0)))
 else if x.kd=2 then (d.be.all mayE&&decide (d.be.length≤4096))&&((d.oy.isSome&&(d.ou.isSome&&d.om.isSome))&&(Gj x d&&decide (0≤x.st∧x.st≤4096)))
 else if x.kd=3 then decide (d.be.length=0∧x.st=0)&&((zFV x.y&&(zFV x.u&&zFV x.m))&&(mayT d&&(d.pk.all (fun k=>decide (0≤k∧k<(d.pt.length:Int)))&&(decide (d.pk.length+1=d.sp.length)&&(d.op.isSome&&decide (0≤x.co))))))
 else false
/-! Data that check. -/
def EltR (w:World)(v:Value)(e:EL):Prop:=∃ p q:FV,v=.agg #[.int .u8 e.kd,.bool p.b1,.slice p.a1 p.n1 p.c1,.bool p.b2,.slice p.a2 p.n2 p.c2,.bool q.b1,.slice q.a1 q.n1 q.c1,.bool q.b2,.slice q.a2 q.n2 q.c2]∧FracR w (.agg #[.bool p.b1,.slice p.a1 p.n1 p.c1,.bool p.b2,.slice p.a2 p.n2 p.c2]) e.p∧FracR w (.agg #[.bool q.b1,.slice q.a1 q.n1 q.c1,.bool q.b2,.slice q.a2 q.n2 q.c2]) e.q
def PrtR (w:World)(v:Value)(d:PD):Prop:=∃ p q:FV,v=.agg #[.string d.nm,.int .u8 d.kd,.bool p.b1,.slice p.a1 p.n1 p.c1,.bool p.b2,.slice p.a2 p.n2 p.c2,.bool q.b1,.slice q.a1 q.n1 q.c1,.bool q.b2,.slice q.a2 q.n2 q.c2,.int .i64 d.co]∧FracR w (.agg #[.bool p.b1,.slice p.a1 p.n1 p.c1,.bool p.b2,.slice p.a2 p.n2 p.c2]) d.p∧FracR w (.agg #[.bool q.b1,.slice q.a1 q.n1 q.c1,.bool q.b2,.slice q.a2 q.n2 q.c2]) d.q
def RdL {α:Type}(n:Nat)(R:World→Value→α→Prop)(w:World)(s:Value)(l:List α):Prop:=∃ os:List (α×Value),os.map (·.1)=l∧Ls n R w s os
def nilS (s:Value):Prop:=∃ a c,s=.slice a 0 c
def PfR (w:World)(x:PVd):PF→Prop
 | .bound l y u m=>x.kd=1∧RdL 9 EltR w x.s1 l∧FracR w (.agg #[.bool x.y.b1,.slice x.y.a1 x.y.n1 x.y.c1,.bool x.y.b2,.slice x.y.a2 x.y.n2 x.y.c2]) y∧FracR w (.agg #[.bool x.u.b1,.slice x.u.a1 x.u.n1 x.u.c1,.bool x.u.b2,.slice x.u.a2 x.u.n2 x.u.c2]) u∧FracR w (.agg #[.bool x.m.b1,.slice x.m.a1 x.m.n1 x.m.c1,.bool x.m.b2,.slice x.m.a2 x.m.n2 x.m.c2]) m∧x.st=0∧nilS x.s2∧nilS x.s3∧zFV x.tg=true∧nilS x.s4∧zFV x.pw=true∧x.co=0
 | .leaves l y u m n=>x.kd=2∧RdL 9 EltR w x.s1 l∧FracR w (.agg #[.bool x.y.b1,.slice x.y.a1 x.y.n1 x.y.c1,.bool x.y.b2,.slice x.y.a2 x.y.n2 x.y.c2]) y∧FracR w (.agg #[.bool x.u.b1,.slice x.u.a1 x.u.n1 x.u.c1,.bool x.u.b2,.slice x.u.a2 x.u.n2 x.u.c2]) u∧FracR w (.agg #[.bool x.m.b1,.slice x.m.a1 x.m.n1 x.m.c1,.bool x.m.b2,.slice x.m.a2 x.m.n2 x.m.c2]) m∧x.st=n∧nilS x.s2∧nilS x.s3∧zFV x.tg=true∧nilS x.s4∧zFV x.pw=true∧x.co=0
 | .best t pk pw co=>x.kd=3∧nilS x.s1∧zFV x.y=true∧zFV x.u=true∧zFV x.m=true∧x.st=0∧RdL 4 FracR w x.s2 t.sp∧RdL 11 PrtR w x.s3 t.pt∧FracR w (.agg #[.bool x.tg.b1,.slice x.tg.a1 x.tg.n1 x.tg.c1,.bool x.tg.b2,.slice x.tg.a2 x.tg.n2 x.tg.c2]) t.tg∧RdL 1 NumA w x.s4 pk∧FracR w (.agg #[.bool x.pw.b1,.slice x.pw.a1 x.pw.n1 x.pw.c1,.bool x.pw.b2,.slice x.pw.a2 x.pw.n2 x.pw.c2]) pw∧x.co=co
theorem Ix {α β:Type}{n:Nat}{R:World→Value→α→Prop}{S:World→Value→β→Prop}{w:World}{s:Value}{os:List (α×Value)}(h:Ls n R w s os)(f:α→β)(hR:∀ x∈os,R w x.2 x.1→S w x.2 (f x.1)):RdL n S w s ((os.map (·.1)).map f):=
 ⟨_,by simp [List.map_map,Function.comp_def],h.map f hR⟩
theorem Cu {α:Type}{n:Nat}{R:World→Value→α→Prop}{w:World}{s:Value}{os:List (α×Value)}(h:Ls n R w s os)(h0:os.length=0):nilS s:=by
 obtain ⟨a,c,e,-⟩:=h.slice;rw [h0] at e;exact ⟨a,c,e⟩
def elO (r:RE):EL:=⟨r.kd,r.op.getD 0,r.oq.getD 0⟩
def ptO (r:RP):PD:=⟨r.nm,r.kd,r.op.getD 0,r.oq.getD 0,r.co⟩
theorem Nw {kd:Int}{op oq:Option Rat}(h:mayO kd op oq=true):∃ p q,op=some p∧oq=some q:=by
 cases op with
 | none=>cases h
 | some p=>cases oq with
  | none=>cases h
  | some q=>exact ⟨p,q,rfl,rfl⟩
theorem Ae1 {w:World}{v:Value}{r:RE}(h:EltA w v r)(hm:mayE r=true):EltR w v (elO r)∧okE (elO r):=by
 obtain ⟨p,q,e0,f1,f2⟩:=h;obtain ⟨x,y,e1,e2⟩:=Nw hm;have hm':=hm;unfold mayE at hm';rw [e1,e2] at hm';rw [e1] at f1;rw [e2] at f2;obtain ⟨g1,n1⟩:=f1.frac;obtain ⟨g2,n2⟩:=f2.frac;have ex:elO r=⟨r.kd,x,y⟩:=by simp [elO,e1,e2]
 rw [ex];exact ⟨⟨p,q,e0,g1,g2⟩,n1,n2,hm'⟩
theorem Vx {w:World}{v:Value}{r:RP}(h:PrtA w v r)(hm:mayR r=true):PrtR w v (ptO r)∧okPD (ptO r):=by
 obtain ⟨p,q,e0,f1,f2,hs⟩:=h;unfold mayR at hm;simp only [Bool.and_eq_true,decide_eq_true_eq] at hm;obtain ⟨hn,hm,h0,h1⟩:=hm;obtain ⟨x,y,e1,e2⟩:=Nw hm;rw [e1,e2] at hm;rw [e1] at f1;rw [e2] at f2;obtain ⟨g1,n1⟩:=f1.frac;obtain ⟨g2,n2⟩:=f2.frac;have ex:ptO r=⟨r.nm,r.kd,x,y,r.co⟩:=by simp [ptO,e1,e2]
 rw [ex];refine ⟨⟨p,q,e0,g1,g2⟩,n1,n2,hn,?_⟩;unfold mayP;simp [h0,h1,hm]
theorem Px {w:World}{s:Value}{os:List (RE×Value)}(h:Ls 9 EltA w s os)(hm:(os.map (·.1)).all mayE=true):RdL 9 EltR w s ((os.map (·.1)).map elO)∧∀ e∈(os.map (·.1)).map elO,okE e:=by
 have hm':∀ x∈os,mayE x.1=true:=fun x hx=>List.all_eq_true.1 hm _ (List.mem_map_of_mem hx);refine ⟨Ix h elO fun x hx hr=>(Ae1 hr (hm' x hx)).1,fun e he=>?_⟩;obtain ⟨r,hr,rfl⟩:=List.mem_map.1 he;obtain ⟨x,hx,rfl⟩:=List.mem_map.1 hr;exact (Ae1 (h.it x hx) (hm' x hx)).2
theorem Er {w:World}{v:Value}{o:Option Rat}(h:AnyF w v o)(ho:o.isSome=true):∃ x,o=some x∧FracR w v x∧nf x≤2048:=by
 obtain ⟨x,rfl⟩:=Option.isSome_iff_exists.1 ho;exact ⟨x,rfl,h.frac⟩
theorem Agw {w:World}{x:PVd}{d:AD}(h:AnyPf w x d)(hm:Bw x d=true):∃ f:PF,PfR w x f∧okPF f:=by
 obtain ⟨o1,e1,g1⟩:=h.be;obtain ⟨o2,e2,g2⟩:=h.sp;obtain ⟨o3,e3,g3⟩:=h.pt;obtain ⟨o4,e4,g4⟩:=h.pk;have l1:d.be.length=o1.length:=by rw [←e1,List.length_map]
 have l2:d.sp.length=o2.length:=by rw [←e2,List.length_map]
 have l3:d.pt.length=o3.length:=by rw [←e3,List.length_map]
 have l4:d.pk.length=o4.length:=by rw [←e4,List.length_map]
 unfold Bw Gj mayT at hm;split at hm
 ·rename_i hk
  simp only [Bool.and_eq_true,decide_eq_true_eq] at hm;obtain ⟨⟨a1,a2⟩,⟨a3,a4,a5⟩,⟨⟨a6,a7⟩,a8,a9⟩,a10⟩:=hm;obtain ⟨y,-,y2,y3⟩:=Er h.fy a3;obtain ⟨u,-,u2,u3⟩:=Er h.fu a4;obtain ⟨m,-,m2,m3⟩:=Er h.fm a5;rw [←e1] at a1;obtain ⟨b1,b2⟩:=Px g1 a1;exact ⟨.bound _ y u m,⟨hk,b1,y2,u2,m2,a10,Cu g2 (by omega),Cu g3 (by omega),a8,Cu g4 (by omega),a9,a7⟩,⟨by simp;omega,b2⟩,y3,u3,m3⟩
 ·split at hm
  ·rename_i hk
   simp only [Bool.and_eq_true,decide_eq_true_eq] at hm;obtain ⟨⟨a1,a2⟩,⟨a3,a4,a5⟩,⟨⟨a6,a7⟩,a8,a9⟩,a10,a11⟩:=hm;obtain ⟨y,-,y2,y3⟩:=Er h.fy a3;obtain ⟨u,-,u2,u3⟩:=Er h.fu a4;obtain ⟨m,-,m2,m3⟩:=Er h.fm a5;rw [←e1] at a1;obtain ⟨b1,b2⟩:=Px g1 a1;exact ⟨.leaves _ y u m x.st,⟨hk,b1,y2,u2,m2,rfl,Cu g2 (by omega),Cu g3 (by omega),a8,Cu g4 (by omega),a9,a7⟩,⟨by simp;omega,b2⟩,y3,u3,m3,a10,a11⟩
  ·split at hm
   ·rename_i hk
    simp only [Bool.and_eq_true,decide_eq_true_eq] at hm;obtain ⟨⟨a1,a2⟩,⟨a3,a4,a5⟩,⟨⟨t1,t2,t3,t4,t5⟩,t6,t7,t8,t9⟩,a6,a7,a8,a9⟩:=hm;obtain ⟨tg,-,tg2,tg3⟩:=Er h.ft t5;obtain ⟨pw,-,pw2,pw3⟩:=Er h.fp a8
    have hsp:∀ z∈o2,∃ q,z.1=some q∧FracR w z.2 q∧nf q≤2048∧0≤q.num:=fun z hz=>by
     have:=List.all_eq_true.1 t6 z.1 (by rw [←e2];exact List.mem_map_of_mem hz);cases ho:z.1 with
     | none=>rw [ho] at this;cases this
     | some q=>
      rw [ho] at this;have hf:=g2.it z hz;rw [ho] at hf;exact ⟨q,rfl,hf.frac.1,hf.frac.2,by simpa [posO] using this⟩
    have hpt:∀ z∈o3,mayR z.1=true:=fun z hz=>List.all_eq_true.1 t7 z.1 (by rw [←e3];exact List.mem_map_of_mem hz);refine ⟨.best ⟨(o2.map (·.1)).map fun o=>o.getD 0,(o3.map (·.1)).map ptO,tg⟩ d.pk pw x.co,⟨hk,Cu g1 (by omega),a3,a4,a5,a2,?_,?_,tg2,⟨o4,e4,g4⟩,pw2,rfl⟩,⟨?_,?_,?_,?_,tg3,?_,?_,?_,?_⟩,?_,?_,pw3,a9,h.co⟩
    ·refine Ix g2 _ fun z hz _=>?_
     obtain ⟨q,e,f,-⟩:=hsp z hz;rw [e];exact f
    ·exact Ix g3 _ fun z hz hr=>(Vx hr (hpt z hz)).1
    ·simp;omega
    ·simp;omega
    ·simp;omega
    ·simp;omega
    ·intro q hq
     obtain ⟨o,ho,rfl⟩:=List.mem_map.1 hq;obtain ⟨z,hz,rfl⟩:=List.mem_map.1 ho;obtain ⟨q,e,-,f,g⟩:=hsp z hz;simp only [e,Option.getD_some];exact ⟨f,g⟩
    ·intro q hq
     obtain ⟨o,ho,rfl⟩:=List.mem_map.1 hq;obtain ⟨z,hz,rfl⟩:=List.mem_map.1 ho;exact (Vx (g3.it z hz) (hpt z hz)).2
    ·rw [←e3] at t8
     simpa [List.map_map,Function.comp_def,nmL,ptO] using t8
    ·rw [l2,l3] at t9
     simpa using t9
    ·simp;omega
    ·intro k hk
     have:=List.all_eq_true.1 a6 k hk;simpa [l3] using this
   ·cases hm
def FvA (_w:World)(v:Value)(f:FV):Prop:=v=.agg #[.bool f.b1,.slice f.a1 f.n1 f.c1,.bool f.b2,.slice f.a2 f.n2 f.c2]∧f.n1≤140737488355328∧f.n2≤140737488355328
theorem Abe (s:Value)(os:List (FV×Value))(w:World)(hn:os.length≤1099511627776)(h:Ls 4 FvA w s os) :
  Calls Tryz.prog 63 #[s] w fun e w'=>e=.returned (.bool ((os.map (·.1)).all zFV))∧Ext w w':=by
 obtain ⟨a,c,e1,hc⟩:=h.slice;have H:=mK (fun W (e:Ext w W)=>Ls.ext (w':=W) h (fun _ _ x=>x) e);obtain ⟨n,hnn⟩:=nmE os.length;rw [←hnn] at e1 hn;obtain ⟨r,hr⟩:=nmE ((os.map (·.1)).all zFV);rw [←hr];rw [List.all_map] at hr;subst e1;obtain ⟨wo,hwo⟩:=nmE (w:World);rw [←hwo] at H;have st:Hid (∃ k:Nat,k≤n∧Value.int .i64 0=.int .i64 k∧Ext wo w∧∀ j,(hj:j<os.length)→j<k→zFV os[j].1=true):=⟨0,Nat.zero_le _,rfl,hwo ▸ xR _,fun j _ hj=>absurd hj (by omega)⟩
 replace hnn:=mK hnn;replace hwo:=mK hwo;replace hr:=mK hr;clear h hc;go_enter Tryz.func63,Tryz.ntmps63;go_wp2_with fail;go_loopw [7] (fun i wr=>∃ k:Nat,k≤n∧i=.int .i64 k∧Ext wo wr∧∀ j,(hj:j<os.length)→j<k→zFV os[j].1=true) (fun i _=>n-(intOf i).toNat)
 case atStart=>exact st.out
 case round=>
  clear st;obtain ⟨k,hk,rfl,hE,hj⟩:=hrel;obtain ⟨w2,rfl⟩:=nmE (wr:World);by_cases hlt:k<n
  ·have hkl:k<os.length:=by rw [←hnn.out];exact hlt
   obtain ⟨b,o,c1,x1,-,hrg,e0,m1,m2⟩:=(H.out w2 hE).get (by decide) hkl;rw [←hnn.out] at x1;simp only [Value.slice.injEq,true_and] at x1;obtain ⟨rfl,rfl⟩:=x1;obtain ⟨f,hf⟩:=nmE (os[k].1);rw [e0,←hf] at hrg;rw [←hf] at m1 m2;replace hrg:w2.rangeAt b (o+k*4) [.bool f.b1,.slice f.a1 f.n1 f.c1,.bool f.b2,.slice f.a2 f.n2 f.c2]:=hrg
   have hmk:(zFV f=true→∀ j,(hj:j<os.length)→j<k+1→zFV os[j].1=true)∧(zFV f=false→r=false):=by
    refine ⟨fun ht j hjl hjk=>?_,fun hz=>?_⟩
    ·rcases Nat.lt_or_ge j k with h|h
     ·exact hj j hjl h
     ·obtain rfl:j=k:=by omega
      rw [←hf];exact ht
    ·rw [hr.out,Bool.eq_false_iff]
     intro ha;have:=List.all_eq_true.1 ha _ (List.getElem_mem hkl);simp only [Function.comp_apply,←hf,hz] at this;cases this
   clear hf e0;obtain ⟨b1,a1,n1,c1,b2,a2,n2,c2⟩:=f;simp only at hrg m1 m2;obtain ⟨w3,hw3⟩:=nmE (w2.alloc (.cells #[.bool b1,.slice a1 n1 c1,.bool b2,.slice a2 n2 c2] 28));have hE3:=aLe1 hw3;have zV:=aL10 hw3;obtain ⟨y0,y1,y2,y3⟩:=ceL3 zV;have hS:IntKind.i64.wrap ((n1:Int)+(n2:Int))=(n1:Int)+(n2:Int):=by rw [IntKind.wrap_i64];omega
   obtain ⟨B,hB⟩:=nmE (decide ((0:Int)<(n1:Int)+(n2:Int)))
   have hz:zFV ⟨b1,a1,n1,c1,b2,a2,n2,c2⟩=(!b1&&(!b2 && !B)):=by
    have hd:decide (n1+n2=0) = !(decide ((0:Int)<(n1:Int)+(n2:Int))):=by
     rcases Nat.eq_zero_or_pos (n1+n2) with h0|h0
     ·rw [decide_eq_true h0,decide_eq_false (by omega)];rfl
     ·rw [decide_eq_false (by omega),decide_eq_true (by omega)];rfl
    show (!b1&&(!b2&&decide (n1+n2=0)))=_
    rw [hd,hB]
   rw [hz] at hmk;replace hB:=hB.symm;replace hmk:=mK hmk;replace hE:=mK hE;replace hj:=mK hj;replace hE3:=mK hE3;replace hw3:=mK hw3;replace hrg:=mK hrg;clear zV hz m1 m2;cases b1<;>cases b2<;>cases B
   all_goals
    have tok:Tok 8:=.mk _
    go_wp2_with (first
     | (replace tok:Tok 9:=nxT 8 tok;refine wpList_load_mid (by rfl) 28 (.tmp 9) rfl b (o+k*4) rfl [.bool _,.slice a1 n1 c1,.bool _,.slice a2 n2 c2] _ hrg.out Tryz.underlying28 rfl (by kernel_rfl) ?_)
     | ((have _t:Tok 9:=tok);clear _t;clear tok;rw [←hw3.out]))
   ·go_roundw
    case rel=>exact ⟨k+1,by omega,by go_num,hE.out.trans hE3.out,hmk.out.1 (by first|trivial|rfl)⟩
    case measure=>simp [intOf]<;>omega
   all_goals
    go_ret;exact ⟨by rw [hmk.out.2 (by first|trivial|rfl)];rfl,hwo.out ▸ hE.out.trans hE3.out⟩
  ·obtain rfl:n=k:=by omega
   have hf:r=true:=by
    rw [hr.out,List.all_eq_true];intro x hx;obtain ⟨j,hjl,rfl⟩:=List.getElem_of_mem hx;exact hj j hjl (by rw [hnn.out];exact hjl)
   subst hf;replace hE:=mK hE;replace hj:=mK hj;go_wp2_with fail;go_ret;exact ⟨rfl,hwo.out ▸ hE.out⟩
theorem Agb (v:Value)(o:Option Rat)(w:World)(h:AnyF w v o) :
  Calls Tryz.prog 114 #[v] w fun e w'=>e=.returned (.int .i64 (if o.isSome then 0 else 1))∧Ext w w':=by
 obtain ⟨p,rfl⟩:=h.fv;obtain ⟨w1,hw1⟩:=nmE (w.alloc (.cells #[.bool p.b1,.slice p.a1 p.n1 p.c1,.bool p.b2,.slice p.a2 p.n2 p.c2] 28));have hE:=aLe1 hw1;have z:=mK (aL10 hw1);have K:=mK (Gn _ o w1 (h.ext hE));generalize (if o.isSome then (0:Int) else 1)=C at *;replace hw1:=mK hw1;replace hE:=mK hE;clear h;go_enter Tryz.func114,Tryz.ntmps114;have tok:Tok 0:=.mk _
 go_wp2_with (first
  | (replace tok:Tok 1:=nxT 0 tok;rw [←hw1.out];refine wpList_load_row (by rfl) 28 (.tmp 1) rfl w.heap.size rfl 28 #[.bool p.b1,.slice p.a1 p.n1 p.c1,.bool p.b2,.slice p.a2 p.n2 p.c2] (0,0) _ z.out Tryz.underlying28 rfl (by kernel_rfl) ?_)
  | (replace tok:Tok 2:=nxT 1 tok;go_at_call 115;refine K.out.mono ?_;rintro e w2 ⟨rfl,hx⟩;replace hE:=mK (hE.out.trans hx);clear hx))
 go_ret;exact ⟨rfl,hE.out⟩
theorem Up (s:Value)(os:List (Option Rat×Value))(w:World)(hn:os.length≤1099511627776)(h:Ls 4 AnyF w s os) :
  Calls Tryz.prog 66 #[s] w fun e w'=>e=.returned (.bool ((os.map (·.1)).all Option.isSome))∧Ext w w':=by
 obtain ⟨a,c,e1,hc⟩:=h.slice;have H:=mK (fun W (e:Ext w W)=>Ls.ext (w':=W) h (fun _ _ x=>x.ext e) e);obtain ⟨n,hnn⟩:=nmE os.length;rw [←hnn] at e1 hn;obtain ⟨r,hr⟩:=nmE ((os.map (·.1)).all Option.isSome);rw [←hr];rw [List.all_map] at hr;subst e1;obtain ⟨wo,hwo⟩:=nmE (w:World);rw [←hwo] at H;have st:Hid (∃ k:Nat,k≤n∧Value.int .i64 0=.int .i64 k∧Ext wo w∧∀ j,(hj:j<os.length)→j<k→os[j].1.isSome=true):=⟨0,Nat.zero_le _,rfl,hwo ▸ xR _,fun j _ hj=>absurd hj (by omega)⟩
 replace hnn:=mK hnn;replace hwo:=mK hwo;replace hr:=mK hr;clear h hc;go_enter Tryz.func66,Tryz.ntmps66;go_wp2_with fail;go_loopw [7] (fun i wr=>∃ k:Nat,k≤n∧i=.int .i64 k∧Ext wo wr∧∀ j,(hj:j<os.length)→j<k→os[j].1.isSome=true) (fun i _=>n-(intOf i).toNat)
 case atStart=>exact st.out
 case round=>
  clear st;obtain ⟨k,hk,rfl,hE,hj⟩:=hrel;obtain ⟨w2,rfl⟩:=nmE (wr:World);by_cases hlt:k<n
  ·have hkl:k<os.length:=by rw [←hnn.out];exact hlt
   obtain ⟨b,o,c1,x1,-,hrg,hv⟩:=(H.out w2 hE).get (by decide) hkl;rw [←hnn.out] at x1;simp only [Value.slice.injEq,true_and] at x1;obtain ⟨rfl,rfl⟩:=x1;obtain ⟨f,e0⟩:=hv.fv;obtain ⟨oo,hoo⟩:=nmE (os[k].1);rw [←hoo] at hv;rw [e0] at hrg hv;replace hrg:w2.rangeAt b (o+k*4) [.bool f.b1,.slice f.a1 f.n1 f.c1,.bool f.b2,.slice f.a2 f.n2 f.c2]:=hrg;obtain ⟨B,hB⟩:=nmE oo.isSome
   have hmk:(B=true→∀ j,(hj:j<os.length)→j<k+1→os[j].1.isSome=true)∧(B=false→r=false):=by
    refine ⟨fun ht j hjl hjk=>?_,fun hz=>?_⟩
    ·rcases Nat.lt_or_ge j k with h|h
     ·exact hj j hjl h
     ·obtain rfl:j=k:=by omega
      rw [←hoo,←hB];exact ht
    ·rw [hr.out,Bool.eq_false_iff]
     intro ha;have:=List.all_eq_true.1 ha _ (List.getElem_mem hkl);simp only [Function.comp_apply,←hoo,←hB,hz] at this;cases this
   obtain ⟨w3,hw3⟩:=nmE (w2.alloc (.cells #[.bool f.b1,.slice f.a1 f.n1 f.c1,.bool f.b2,.slice f.a2 f.n2 f.c2] 28));have hE3:=aLe1 hw3;have zV:=mK (aL10 hw3);have K:=Agb (.agg #[.bool f.b1,.slice f.a1 f.n1 f.c1,.bool f.b2,.slice f.a2 f.n2 f.c2]) oo w3 (hv.ext hE3);rw [←hB] at K;replace K:=mK K;replace hmk:=mK hmk;replace hE:=mK hE;replace hj:=mK hj;replace hE3:=mK hE3;replace hw3:=mK hw3;replace hrg:=mK hrg;clear e0 hv hoo hB;cases B
   all_goals
    have tok:Tok 8:=.mk _
    go_wp2_with (first
     | (replace tok:Tok 9:=nxT 8 tok;refine wpList_load_mid (by rfl) 28 (.tmp 9) rfl b (o+k*4) rfl [.bool f.b1,.slice f.a1 f.n1 f.c1,.bool f.b2,.slice f.a2 f.n2 f.c2] _ hrg.out Tryz.underlying28 rfl (by kernel_rfl) ?_)
     | (replace tok:Tok 10:=nxT 9 tok;rw [←hw3.out];refine wpList_load_row (by rfl) 28 (.tmp 4) rfl (w2.heap.size) rfl 28 #[.bool f.b1,.slice f.a1 f.n1 f.c1,.bool f.b2,.slice f.a2 f.n2 f.c2] (0,0) _ zV.out Tryz.underlying28 rfl (by kernel_rfl) ?_)
     | ((have _t:Tok 10:=tok);clear _t;clear tok;go_at_call 114;refine K.out.mono ?_;rintro e w4 ⟨rfl,hx⟩;replace hE3:=mK (hE3.out.trans hx);clear hx))
   ·go_ret
    exact ⟨by rw [hmk.out.2 (by first|trivial|rfl)];rfl,hwo.out ▸ hE.out.trans hE3.out⟩
   ·go_roundw
    case rel=>exact ⟨k+1,by omega,by go_num,hE.out.trans hE3.out,hmk.out.1 (by first|trivial|rfl)⟩
    case measure=>simp [intOf]<;>omega
  ·obtain rfl:n=k:=by omega
   have hf:r=true:=by
    rw [hr.out,List.all_eq_true];intro x hx;obtain ⟨j,hjl,rfl⟩:=List.getElem_of_mem hx;exact hj j hjl (by rw [hnn.out];exact hjl)
   subst hf;replace hE:=mK hE;replace hj:=mK hj;go_wp2_with fail;go_ret;exact ⟨rfl,hwo.out ▸ hE.out⟩
def HasL (w:World)(k:Nat):Prop:=∃ (cs:Array Value) (T:TypeId) (fr:Nat×Nat) (j:Nat) (x:Int),w.heap[k]? = some (.cells cs T fr)∧cs[j]? = some (.int .u32 x)
structure Fl (lo:Nat) (w w':World):Prop where
 os:w'.os=w.os
 tape:w'.tape=w.tape
 output:w'.output=w.output
 size:w.heap.size≤w'.heap.size
 block:∀ k,k<w.heap.size→(k<lo∨HasL w k)→w'.heap[k]? = w.heap[k]?
theorem Fl.of_chg {lo:Nat}{w w':World}{S:Nat→Prop}(h:Chg w w' S)(hS:∀ k,S k→lo≤k∧¬HasL w k):Fl lo w w':=
 ⟨h.os,h.tape,h.output,h.size,fun k hk hs=>h.block k hk fun hk2=>by
  obtain ⟨h1,h2⟩:=hS k hk2
  rcases hs with hs|hs
  ·omega
  ·exact h2 hs⟩
theorem Row.fl {lo:Nat}{w w':World}{a:Option Addr}{l:List Nat}(h:Row w a (limV l))(k:Fl lo w w'):Row w' a (limV l):=by
 obtain ⟨b,off,h1,h2⟩:=h;refine ⟨b,off,h1,fun j hj=>?_⟩;have hc:=h2 j hj;rw [Dg _ _ (by rw [Cc] at hj;exact hj)] at hc ⊢
 have hb:b<w.heap.size∧HasL w b:=by
  unfold World.cell? at hc;split at hc
  ·rename_i cs T fr he
   refine ⟨(Array.getElem?_eq_some_iff.1 he).1,cs,T,fr,off+j,((l.getD j 0:Nat):Int),he,?_⟩;simpa using hc
  ·cases hc
 have e:=k.block b hb.1 (.inr hb.2);unfold World.cell? at hc ⊢;rw [e];exact hc
theorem IntR.fl {lo:Nat}{w w':World}{v:Value}{x:Int}(h:IntR w v x)(k:Fl lo w w'):IntR w' v x:=by
 obtain ⟨s,h1,a,c,h2,h3,r⟩:=h;exact ⟨s,h1,a,c,h2,h3,r.fl k⟩
theorem FracR.fl {lo:Nat}{w w':World}{v:Value}{q:Rat}(h:FracR w v q)(k:Fl lo w w'):FracR w' v q:=by
 obtain ⟨b1,a1,n1,c1,b2,a2,n2,c2,h1,h2,h3⟩:=h;exact ⟨b1,a1,n1,c1,b2,a2,n2,c2,h1,h2.fl k,h3.fl k⟩
theorem noL {w:World}{k T:Nat}{fr:Nat×Nat}{cs:Array Value}(h:w.heap[k]? = some (.cells cs T fr))(hc:∀ (j:Nat) (x:Int),cs[j]?≠some (Value.int .u32 x)):¬HasL w k:=by
 rintro ⟨cs',T',fr',j,x,h1,h2⟩;rw [h] at h1;cases h1;exact hc j x h2
theorem Aq (w:World)(g:Nat)(cs:Array Value):Chg w (w.setRow g cs) (· = g):=
 ⟨rfl,rfl,rfl,by simp,fun k _ hk=>setRow_other _ _ _ _ hk⟩
end Go.Proofs.YtlknpnommcohkaaGreatDoor
namespace Go.Proofs.YtlknpnommcohkaaGreatDoor
set_option maxRecDepth 100000
open Go Go.RowKit Go.Proofs Go.Lib
theorem Uh:liesAt Tryz.prog Tryz.prog.depth 66 (2/Tryz.prog.cellsOf 66) 0 64 1=true:=by kernel_rfl
theorem Ol (b:Nat)(w:World)(h0:w.cell? ⟨b,0,none⟩=some (.pointer none))(hsh:w.shape? b=some (66,2))(hfz:w.frozen? ⟨b,0,none⟩=false) :
  Calls Tryz.prog 119 #[.pointer (some ⟨b,0,none⟩)] w fun e w'=>e=.returned (.tuple #[])∧w'=w.setCell ⟨b,0,none⟩ (.pointer (some ⟨b,0,none⟩)):=by
 obtain ⟨j,hj,hjs⟩:=Option.map_eq_some_iff.1 sizeBuilder;go_enter Tryz.func119,Tryz.ntmps119;go_wp2;rw [Lib.run_to_unsafe w ⟨b,0,none⟩ Tryz.underlying61 Tryz.underlying186 hj (by rw [hjs];decide) hsh (Nat.zero_lt_succ 1)];simp only [Result.andThen];rw [Oper.upon_value];go_wp2;rw [run_callFunc_extern Tryz.func174 (by kernel_rfl) (by kernel_rfl) (by kernel_rfl) (e:=Extern.AbiNoEscape.same) (by kernel_rfl)];rw [Lib.run_noEscape];simp only [Result.andThen];rw [Oper.upon_value];go_wp2;rw [Lib.run_from_unsafe w ⟨b,0,none⟩ Tryz.underlying186 Tryz.underlying61 hj hsh Uh];simp only [Result.andThen];rw [Oper.upon_value];go_wp2;go_end0;exact ⟨rfl,rfl⟩
def WrtAt (lo b:Nat)(p:Value)(bs:List Value)(w:World):Prop:=b<lo∧∃ v,w.heap[b]? = some (.cells #[p,v] 66 (0,0))∧w.ownsRow lo 5 1 v bs.length bs
def IsWrt (lo b:Nat)(bs:List Value)(w:World):Prop:=WrtAt lo b (.pointer none) bs w∨WrtAt lo b (.pointer (some ⟨b,0,none⟩)) bs w
theorem Hb {w:World}{lo E n:Nat}{v:Value}{xs:List Value}(h:w.ownsRow lo E 1 v n xs):∀ g,v.ownBlock=some g→lo≤g∧g<w.heap.size:=by
 intro g hg;rcases h.2 with ⟨e,_⟩|⟨k,cap,cur,e,h1,h2,_⟩
 ·rw [e] at hg;cases hg
 ·rw [e] at hg
  cases hg;exact ⟨h1,(Array.getElem?_eq_some_iff.1 h2).1⟩
theorem WrtAt.at {lo b:Nat}{p:Value}{bs:List Value}{w:World}(h:WrtAt lo b p bs w):Lib.BuilderAt 66 5 b b p bs w:=by
 obtain ⟨h1,v,h2,h3⟩:=h;exact ⟨nR _,v,h2,Eu h3 (Nat.le_of_lt h1),fun e=>by have:=(Hb h3 _ e).1;omega⟩
theorem IsWrt.is {lo b:Nat}{bs:List Value}{w:World}(h:IsWrt lo b bs w):Lib.IsBuilder 66 5 b b bs w:=by
 rcases h with h|h
 ·exact .inl h.at
 ·exact .inr h.at
theorem WrtAt.ext {lo b:Nat}{p:Value}{bs:List Value}{w w':World}(h:WrtAt lo b p bs w)(e:Ext w w'):WrtAt lo b p bs w':=by
 obtain ⟨h1,v,h2,h3⟩:=h;exact ⟨h1,v,e.blk h2,Ca h3 e⟩
theorem IsWrt.ext {lo b:Nat}{bs:List Value}{w w':World}(h:IsWrt lo b bs w)(e:Ext w w'):IsWrt lo b bs w':=by
 rcases h with h|h
 ·exact .inl (h.ext e)
 ·exact .inr (h.ext e)
def bW (b lo k:Nat):Prop:=k=b∨lo≤k
def KpW (b:Nat)(w w':World):Prop:=∀ (g:Nat) (cs:Array Value) (T:TypeId) (fr:Nat×Nat),g≠b→T≠5→w.heap[g]? = some (.cells cs T fr)→w'.heap[g]? = some (.cells cs T fr)
theorem KpW.ext {b:Nat}{w w':World}(e:Ext w w'):KpW b w w':=fun _ _ _ _ _ _ h=>e.blk h
theorem KpW.trans {b:Nat}{w w' w'':World}(h:KpW b w w')(k:KpW b w' w''):KpW b w w'':=fun g cs T fr h1 h2 h3=>k g cs T fr h1 h2 (h g cs T fr h1 h2 h3)
theorem wcheck2 (lo b:Nat)(bs:List Value)(w:World)(h:IsWrt lo b bs w) :
  Calls Tryz.prog 119 #[.pointer (some ⟨b,0,none⟩)] w fun e w'=>e=.returned (.tuple #[])∧(WrtAt lo b (.pointer (some ⟨b,0,none⟩)) bs w'∧Chg w w' (· = b)):=by
 rcases h with h|h
 ·refine (Ol b w h.at.cell0 h.at.shape h.at.frozen0).mono ?_
  rintro e w' ⟨rfl,rfl⟩;obtain ⟨h1,v,h2,h3⟩:=h;have e1:=setCell_eq_setRow w b 0 _ _ _ (.pointer (some ⟨b,0,none⟩)) h2;rw [e1];refine ⟨rfl,⟨h1,v,setRow_heap _ _ _ _ _ _ h2,Dy h3 h1 _⟩,Aq w b _⟩
 ·refine (Ku b w h.at.cell0).mono ?_
  rintro e w' ⟨rfl,rfl⟩;exact ⟨rfl,h,Chg.refl _ _⟩
theorem wwrite2 (lo b:Nat)(bs:List Value)(s:ByteArray)(w:World)(h:IsWrt lo b bs w)(hlen:bs.length+s.size≤140737488355328)(hlo:lo≤w.heap.size) :
  Calls Tryz.prog 69 #[.pointer (some ⟨b,0,none⟩),.string s] w fun e w'=>e=.returned (.tuple #[.int .i64 s.size,.nilIface])∧(IsWrt lo b (bs++Lib.strCells s) w'∧Chg w w' (bW b lo)∧KpW b w w'):=by
 obtain ⟨i0,hi,hz0,hz1,hz2⟩:=info_parts infoByte;go_enter Tryz.func69,Tryz.ntmps69;go_wp2_with (go_at_call 119;refine (wcheck2 lo b bs _ h).mono ?_);rintro e w1 ⟨rfl,h1,hb1⟩;obtain ⟨hB,v,hbk,hown⟩:=h1;have hne:v.ownBlock≠some b:=fun e=>by have:=(Hb hown _ e).1;omega
 have c0:w1.cell? ⟨b,0,none⟩=some (.pointer (some ⟨b,0,none⟩)):=by rw [Lib.cell_of_heap hbk];rfl
 have c1:w1.cell? ⟨b,1,none⟩=some v:=by rw [Lib.cell_of_heap hbk];rfl
 go_wp2_with (at_builtin;refine Lib.wpList_append_own_string _ rfl _ _ 62 9 rfl lo 5 i0 Tryz.underlying62 Tryz.underlying9 hi hz0 hz1 hz2 _ _ _ rfl hown s rfl ?c3 ?c4 ?c5 ?_)
 case c3=>unfold maxLen;omega
 case c4=>omega
 case c5=>have:=hb1.size;omega
 intro v' w2 hown' hgrow _;have hlt:b<w1.heap.size:=(Array.getElem?_eq_some_iff.1 hbk).1
 have hb2:w2.heap[b]? = some (.cells #[.pointer (some ⟨b,0,none⟩),v] 66 (0,0)):=by
  rw [hgrow.block b hlt (fun e=>hne e.symm)];exact hbk
 have d0:w2.cell? ⟨b,0,none⟩=some (.pointer (some ⟨b,0,none⟩)):=by rw [Lib.cell_of_heap hb2];rfl
 have d1:w2.cell? ⟨b,1,none⟩=some v:=by rw [Lib.cell_of_heap hb2];rfl
 have f1:w2.frozen? ⟨b,1,none⟩=false:=Lib.frozen_of_heap hb2 1
 obtain ⟨ao,n',cap,rfl⟩:∃ ao n' cap,v'=.slice ao n' cap:=by
  rcases hown'.2 with ⟨hv,_⟩|⟨g,cap,cur,hv,_⟩
  ·exact ⟨_,_,_,hv⟩
  ·exact ⟨_,_,_,hv⟩
 go_wp2;go_ret2;have e1:=setCell_eq_setRow w2 b 1 _ _ _ (.slice ao n' cap) hb2;rw [e1];refine ⟨rfl,.inr ⟨hB,_,setRow_heap _ _ _ _ _ _ hb2,Dy (by simpa [Lib.strCells_length] using hown') hB _⟩,?_,?_⟩
 ·exact (hb1.mono fun k _ hk=>.inl hk).trans (((Chg.grown hgrow).mono fun k _ hk=>.inr (Hb hown k hk.symm).1).trans ((Aq w2 b _).mono fun k _ hk=>.inl hk))
 ·intro g cs T fr hg hT hh
  rw [setRow_other _ _ _ _ hg];have hh1:w1.heap[g]? = some (.cells cs T fr):=(hb1.block g (Array.getElem?_eq_some_iff.1 hh).1 hg).trans hh;rw [hgrow.block g (Array.getElem?_eq_some_iff.1 hh1).1 fun e=>?_]
  ·exact hh1
  ·rcases hown.2 with ⟨e2,_⟩|⟨k,cap,cur,e2,_,h4,_⟩
   ·rw [e2] at e;cases e
   ·rw [e2] at e
    cases e;rw [h4] at hh1;cases hh1;exact hT rfl
theorem Jp {w:World}{b lo:Nat}(hb:b<lo)(h:w.heap[b]? = some (.cells #[.pointer none,   .slice none 0 0] 66 (0,0))):IsWrt lo b [] w:=
 .inl ⟨hb,_,h,World.ownsRow_nil _ _ _ _⟩
theorem wbyte2 (lo b:Nat)(bs:List Value)(c:Int)(w:World)(h:IsWrt lo b bs w)(hlen:bs.length+1≤140737488355328)(hlo:lo≤w.heap.size) :
  Calls Tryz.prog 68 #[.pointer (some ⟨b,0,none⟩),.int .u8 c] w fun e w'=>e=.returned .nilIface∧(IsWrt lo b (bs++[.int .u8 c]) w'∧Chg w w' (bW b lo)∧KpW b w w'):=by
 obtain ⟨i0,hi,hz0,hz1,hz2⟩:=info_parts infoByte;go_enter Tryz.func68,Tryz.ntmps68;go_wp2_with (go_at_call 119;refine (wcheck2 lo b bs _ h).mono ?_);rintro e w1 ⟨rfl,h1,hb1⟩;obtain ⟨hB,v,hbk,hown⟩:=h1;have hne:v.ownBlock≠some b:=fun e=>by have:=(Hb hown _ e).1;omega
 have c0:w1.cell? ⟨b,0,none⟩=some (.pointer (some ⟨b,0,none⟩)):=by rw [Lib.cell_of_heap hbk];rfl
 have c1:w1.cell? ⟨b,1,none⟩=some v:=by rw [Lib.cell_of_heap hbk];rfl
 go_wp2_with (at_builtin;refine wpList_append_own _ rfl _ _ 62 rfl lo 5 i0 (.int .u8 0) 1 1 Tryz.underlying62 hi hz0 hz1 hz2 rfl (by decide) _ _ _ rfl (hown.alloc _) ⟨w1.heap.size,0,none⟩ 1 1 [.int .u8 c] rfl rfl ?c1 ?c2 ?c3 ?c4 ?c5 ?_)
 case c1=>
  intro j u hj
  match j,hj with
  | 0,hj=>simp at hj;subst hj;simp [Addr.add]
 case c2=>intro u hu;simp at hu;subst hu;rfl
 case c3=>unfold maxLen;omega
 case c4=>omega
 case c5=>have:=hb1.size;simp;omega
 intro v' w2 hown' hgrow _;have hlt:b<w1.heap.size:=(Array.getElem?_eq_some_iff.1 hbk).1
 have hb2:w2.heap[b]? = some (.cells #[.pointer (some ⟨b,0,none⟩),v] 66 (0,0)):=by
  rw [hgrow.block b (by simp;omega) (fun e=>hne e.symm),Lib.alloc_old w1 _ b hlt];exact hbk
 have d0:w2.cell? ⟨b,0,none⟩=some (.pointer (some ⟨b,0,none⟩)):=by rw [Lib.cell_of_heap hb2];rfl
 have d1:w2.cell? ⟨b,1,none⟩=some v:=by rw [Lib.cell_of_heap hb2];rfl
 have f1:w2.frozen? ⟨b,1,none⟩=false:=Lib.frozen_of_heap hb2 1
 obtain ⟨g,cap,rfl⟩:∃ g cap,v'=.slice (some ⟨g,0,none⟩) (bs.length+1) cap:=by
  rcases hown'.2 with ⟨_,h0⟩|⟨g,cap,cur,hv,_⟩
  ·omega
  ·exact ⟨g,cap,hv⟩
 go_wp2;go_ret;have e1:=setCell_eq_setRow w2 b 1 _ _ _ (.slice (some ⟨g,0,none⟩) (bs.length+1) cap) hb2;rw [e1];refine ⟨rfl,.inr ⟨hB,_,setRow_heap _ _ _ _ _ _ hb2,Dy (by simpa using hown') hB _⟩,?_,?_⟩
 ·exact (hb1.mono fun k _ hk=>.inl hk).trans ((Chg.of_ext ((xR w1).al _) _).trans (((Chg.grown hgrow).mono fun k _ hk=>.inr (Hb hown k hk.symm).1).trans ((Aq w2 b _).mono fun k _ hk=>.inl hk)))
 ·intro g cs T fr hg hT hh
  rw [setRow_other _ _ _ _ hg];have hh1:w1.heap[g]? = some (.cells cs T fr):=(hb1.block g (Array.getElem?_eq_some_iff.1 hh).1 hg).trans hh;have hg1:=(Array.getElem?_eq_some_iff.1 hh1).1;rw [hgrow.block g (by simp;omega) fun e=>?_,Lib.alloc_old w1 _ g hg1]
  ·exact hh1
  ·rcases hown.2 with ⟨e2,_⟩|⟨k,cap,cur,e2,_,h4,_⟩
   ·rw [e2] at e;cases e
   ·rw [e2] at e
    cases e;rw [h4] at hh1;cases hh1;exact hT rfl
theorem Agx {n k:Nat}(h:n<2 ^ k):3*nDigits n≤k+3:=by
 by_cases hn:n=0
 ·subst hn
  rw [nDigits_small (by omega)];omega
 ·have p:=Cd n (by omega)
  have q:8 ^ (nDigits n-1)≤10 ^ (nDigits n-1):=Nat.pow_le_pow_left (by decide) _;have r:8 ^ (nDigits n-1)<2 ^ k:=by omega
  rw [show (8:Nat)=2 ^ 3 from rfl,←Nat.pow_mul] at r;have:=(Nat.pow_lt_pow_iff_right (by decide:1<2)).1 r;omega
theorem Nz {X:Int}{L:Nat}(h:nl X≤L):3*(itoa X).length≤32*L+6:=by
 have hXb:X.natAbs<2 ^ (32*(lim X.natAbs).length):=by
  have:=Cs (By X.natAbs);rw [Bn,show (4294967296:Nat)=2 ^ 32 from rfl,←Nat.pow_mul] at this;exact this
 have h1:=Agx hXb;have h2:(lim X.natAbs).length≤L:=h;unfold itoa;split
 ·rw [List.length_cons,decDigits_length]
  omega
 ·rw [decDigits_length,show X.toNat=X.natAbs by omega]
  omega
theorem Bu {x:Rat}(h:nf x≤2048):(An x).length≤65536:=by
 have h1:nl x.num≤2048:=nT (Nat.le_max_left _ _) h;have h2:nl (x.den:Int)≤2048:=nT (Nat.le_max_right _ _) h;have g1:=Nz h1;have g2:=Nz h2;unfold An;split
 ·omega
 ·rw [List.length_append,List.length_cons]
  omega
theorem Ag0 {w:World}{g:Nat}{b1 b2:Bool}{a1 a2:Option Addr}{n1 c1 n2 c2:Nat}{o:Option Rat}{T:Nat}(hg:w.heap[g]? = some (.cells #[.bool b1,.slice a1 n1 c1,.bool b2,.slice a2 n2 c2] T (0,0)))
  (h:AnyF w (.agg #[.bool b1,.slice a1 n1 c1,.bool b2,.slice a2 n2 c2]) o):LF w g [o]:=by
 intro k hk;obtain rfl:k=0:=by simpa using hk
 obtain ⟨y0,y1,y2,y3⟩:=ceL3 hg;exact ⟨_,_,_,_,_,_,_,_,y0,y1,y2,y3,h⟩
theorem Ml (v:Value)(x:Rat)(w:World)(hx:nf x≤2048)(h:FracR w v x)(ht:Tab10 w) :
  Calls Tryz.prog 27 #[v] w fun e w'=>e=.returned (.tuple #[.string ⟨(An x).toArray⟩,.int .i64 0])∧Ext w w':=by
 have hlen:=Bu hx;have H:=h;obtain ⟨b1,a1,n1,c1,b2,a2,n2,c2,rfl⟩:=h.shape;obtain ⟨w3,hw3⟩:=nmE ((w.alloc (.cells #[.bool b1,.slice a1 n1 c1,.bool b2,.slice a2 n2 c2] 28)).alloc (.cells #[.bool b1,.slice a1 n1 c1,.bool b2,.slice a2 n2 c2] 28));have hE:=aLe2 hw3;have z0:=aL20 hw3;have z1:=aL21 hw3;have HA:=(h.ext hE).any (nT hx (by decide));rw [if_pos hx] at HA;have hc:=Hj (w.heap.size+1) 1 [some x] w3 (by simp) (Ag0 z1 HA);rw [List.length_singleton,show ([some x]:List (Option Rat)).all Option.isSome=true from rfl] at hc;have hd:=mK (fun W (e:Ext w3 W)=>Rd (.agg #[.bool b1,.slice a1 n1 c1,.bool b2,.slice a2 n2 c2]) x W (nT hx (by decide)) (h.ext (hE.trans e)) (In ht (hE.trans e)));obtain ⟨S,hS⟩:∃ S:ByteArray,S=⟨(An x).toArray⟩:=⟨_,rfl⟩
 have hs:S.size≤65536:=by rw [hS];simpa [ByteArray.size] using hlen
 rw [←hS] at hd ⊢;have hsd:decide ((65536:Int)<(S.size:Int))=false:=by simp;omega
 replace hc:=mK hc;replace hE:=mK hE;replace z0:=mK z0;replace hw3:=mK hw3;replace hS:=mK hS;clear h H HA z1 ht hlen;go_enter Tryz.func27,Tryz.ntmps27
 go_wp2_with (first
  | (go_at_call 71;rw [←hw3.out];refine hc.out.mono ?_;rintro e w4 ⟨rfl,hE4⟩;(have z4:=mK (hE4.blk z0.out));replace hE4:=mK hE4)
  | (refine wpList_load_row (by rfl) 28 (.tmp 1) rfl (w.heap.size) rfl 28 #[.bool b1,.slice a1 n1 c1,.bool b2,.slice a2 n2 c2] (0,0) _ z4.out Tryz.underlying28 rfl (by kernel_rfl) ?_)
  | (go_at_call 72;refine (hd.out _ hE4.out).mono ?_;rintro e w5 ⟨rfl,hE5⟩;replace hE5:=mK hE5))
 go_ret2;exact ⟨rfl,hE.out.trans (hE4.out.trans hE5.out)⟩
theorem Fo (c:UInt8):∀ (ws:WL) (x:List UInt8),ws≠[]→Ai c (ws++[x])=Ai c ws++c::x
 | [],_,h=>absurd rfl h
 | [y],x,_=>rfl
 | y::z::r,x,_=>by
  show y++c::Ai c ((z::r)++[x])=(y++c::Ai c (z::r))++c::x
  rw [Fo c (z::r) x (by simp)]
  simp
theorem strC (l:List UInt8):Lib.strCells ⟨l.toArray⟩=byteCells l:=by
 rw [Lib.strCells_eq]
theorem catC (a b:List UInt8):byteCells a++byteCells b=byteCells (a++b):=by simp [byteCells]
theorem spC:([.int .u8 32]:List Value)=byteCells [32]:=rfl
theorem lenC (a:List UInt8):(byteCells a).length=a.length:=by simp [byteCells]
structure Kw (b lo:Nat) (w w':World):Prop where
 c:Chg w w' (bW b lo)
 k:KpW b w w'
theorem Kw.refl (b lo:Nat)(w:World):Kw b lo w w:=⟨Chg.refl _ _,KpW.ext (xR _)⟩
theorem Kw.trans {b lo:Nat}{w1 w2 w3:World}(h:Kw b lo w1 w2)(k:Kw b lo w2 w3):Kw b lo w1 w3:=⟨h.c.trans k.c,h.k.trans k.k⟩
theorem Kw.of (b lo:Nat){w w':World}(e:Ext w w'):Kw b lo w w':=⟨Chg.of_ext e _,KpW.ext e⟩
theorem Gt (lo b:Nat)(bs:List Value)(w:World)(h:IsWrt lo b bs w) :
  Calls Tryz.prog 29 #[.pointer (some ⟨b,0,none⟩)] w fun e w'=>e=.returned (.int .i64 bs.length)∧w=w':=by
 obtain ⟨p,v,hb,ho⟩:∃ p v,w.heap[b]? = some (.cells #[p,v] 66 (0,0))∧w.ownsRow lo 5 1 v bs.length bs:=by
  rcases h with ⟨_,v,h1,h2⟩|⟨_,v,h1,h2⟩
  ·exact ⟨_,v,h1,h2⟩
  ·exact ⟨_,v,h1,h2⟩
 obtain ⟨a,c,rfl,hc,-⟩:=Fr ho;obtain ⟨y0,y1⟩:=ceL1 hb;clear h ho hb;go_enter Tryz.func29,Tryz.ntmps29;go_wp2_with fail;go_ret;exact ⟨rfl,rfl⟩
def txtO (os:List (Rat×Value)):WL:=os.map fun x=>An x.1
theorem Zx (lo b:Nat)(l word:List UInt8)(w:World)(h:IsWrt lo b (byteCells l) w)(hlen:l.length+word.length≤140737488355328)(hlo:lo≤w.heap.size) :
  Calls Tryz.prog 69 #[.pointer (some ⟨b,0,none⟩),.string ⟨word.toArray⟩] w fun e w'=>(∃ m:Int,e=.returned (.tuple #[.int .i64 m,.nilIface]))∧IsWrt lo b (byteCells (l++word)) w'∧Kw b lo w w':=by
 refine (wwrite2 lo b _ ⟨word.toArray⟩ w h (by rw [lenC];simpa [ByteArray.size] using hlen) hlo).mono ?_;rintro e w' ⟨he,h1,h2,h3⟩;rw [strC,catC] at h1;exact ⟨⟨_,he⟩,h1,h2,h3⟩
theorem Zy (lo b:Nat)(l:List UInt8)(w:World)(h:IsWrt lo b (byteCells l) w)(hlen:l.length+1≤140737488355328)(hlo:lo≤w.heap.size) :
  Calls Tryz.prog 68 #[.pointer (some ⟨b,0,none⟩),.int .u8 32] w fun e w'=>e=.returned .nilIface∧IsWrt lo b (byteCells (l++[32])) w'∧Kw b lo w w':=by
 refine (wbyte2 lo b _ 32 w h (by rw [lenC];exact hlen) hlo).mono ?_;rintro e w' ⟨he,h1,h2,h3⟩;rw [spC,catC] at h1;exact ⟨he,h1,h2,h3⟩
theorem Kw.size {b lo:Nat}{w w':World}(h:Kw b lo w w'):w.heap.size≤w'.heap.size:=h.c.size
theorem No (lo b:Nat)(ws:WL)(word:List UInt8)(s:Value)(os:List (Rat×Value))(w:World)(hI:IsWrt lo b (byteCells (Ai 32 ws)) w)(hw:ws=[]∨Ai 32 ws≠[])(hlo:lo≤w.heap.size)
  (hls:∀ W,Kw b lo w W→Ls 4 FracR W s os) (hnf:∀ x∈os,nf x.1≤2048) (hlen:(Ai 32 ws).length+word.length+os.length*65537≤70368744177664) (hT:∀ W,Kw b lo w W→Tab10 W) :
  Calls Tryz.prog 25 #[.pointer (some ⟨b,0,none⟩),.string ⟨word.toArray⟩,s] w fun e w'=>e=.returned (.tuple #[])∧IsWrt lo b (byteCells (Ai 32 (ws++word::txtO os))) w'∧Kw b lo w w':=by
 obtain ⟨a,c,e1,hc⟩:=(hls w (Kw.refl _ _ _)).slice;obtain ⟨n,hn⟩:=nmE os.length;rw [←hn] at e1 hc hlen;obtain ⟨C,hC⟩:∃ C:Nat→List UInt8,C=fun k=>Ai 32 (ws++word::(txtO os).take k):=⟨_,rfl⟩
 have hCs:∀ k,(hk:k<os.length)→C (k+1)=C k++32::An os[k].1:=by
  intro k hk;have hk':k<(txtO os).length:=by simpa [txtO] using hk
  rw [hC];show Ai 32 (ws++word::(txtO os).take (k+1))=_
  rw [List.take_succ_eq_append_getElem hk',←List.cons_append,←List.append_assoc,Fo 32 _ _ (by simp)];simp [txtO]
 have hCn:C n=Ai 32 (ws++word::txtO os):=by
  rw [hC];show Ai 32 (ws++word::(txtO os).take n)=_
  rw [List.take_of_length_le (by simp [txtO,hn])]
 have hCl:∀ k,k≤n→(C k).length≤(Ai 32 ws).length+1+word.length+k*65537:=by
  intro k
  induction k with
  | zero=>
   intro _;rw [hC];show (Ai 32 (ws++word::(txtO os).take 0)).length≤_
   rcases hw with rfl|hw
   ·simp [Ai]
   ·have hne:ws≠[]:=fun e=>hw (by rw [e];rfl)
    rw [List.take_zero,Fo 32 ws word hne,List.length_append,List.length_cons];omega
  | succ k ih=>
   intro hk;have hk':k<os.length:=by omega
   rw [hCs k hk',List.length_append,List.length_cons];have h1:=ih (by omega);have h2:=Bu (hnf _ (List.getElem_mem hk'));omega
 have hC0:(ws=[]→C 0=word)∧(Ai 32 ws≠[]→C 0=Ai 32 ws++[32]++word):=by
  rw [hC];refine ⟨fun h=>by subst h;rfl,fun h=>?_⟩;have hne:ws≠[]:=fun e=>h (by rw [e];rfl);show Ai 32 (ws++word::(txtO os).take 0)=_
  rw [List.take_zero,Fo 32 ws word hne];simp
 rw [←hCn];have HL:=mK hls;have HT:=mK hT;have HN:=mK hnf;have HCs:=mK hCs;have HCl:=mK hCl;have hnl:n*65537≤70368744177664:=by omega
 obtain ⟨B0,hB0⟩:=nmE (Ai 32 ws);rw [←hB0] at hI hw hlen hC0 HCl;clear hls hT hnf hCs hCl hCn hC hc;subst e1;obtain ⟨wo,hwo⟩:=nmE (w:World);rw [←hwo] at HL HT
 have hw0:(B0=[]∧C 0=B0++word)∨(B0≠[]∧C 0=B0++[32]++word):=by
  rcases hw with hw|hw
  ·left
   rw [hC0.1 hw];subst hw;rw [hB0];exact ⟨rfl,rfl⟩
  ·exact .inr ⟨hw,hC0.2 hw⟩
 have hWL:=Gt lo b _ w hI;obtain ⟨L,hL⟩:=nmE ((byteCells B0).length);rw [←hL] at hWL;obtain ⟨D,hD⟩:=nmE (decide (0<L));have hbl:(C 0).length≤70368744243202:=by have:=HCl.out 0 (Nat.zero_le _);omega
 obtain ⟨X,hX,hDX⟩:∃ X,C 0=X++word∧((D=false∧B0=X)∨(D=true∧B0++[32]=X)):=by
  rcases hw0 with ⟨h0,h1⟩|⟨h0,h1⟩
  ·exact ⟨B0,h1,.inl ⟨by rw [hD,hL,h0];rfl,rfl⟩⟩
  ·refine ⟨B0++[32],h1,.inr ⟨?_,rfl⟩⟩
   rw [hD,hL,lenC];exact decide_eq_true (List.length_pos_iff.2 h0)
 have hBl:B0.length+1≤140737488355328:=by omega
 have hXl:X.length+word.length≤140737488355328:=by rw [hX,List.length_append] at hbl;omega
 have hWB:=mK (fun W h hl=>Zy lo b B0 W h hBl hl);have hWS:=mK (fun W h hl=>Zx lo b X word W h hXl hl);rw [←hX] at hWS;replace hD:=hD.symm;have hK:Kw b lo wo w:=by rw [hwo];exact Kw.refl _ _ _
 have hloo:lo≤wo.heap.size:=by rw [hwo];exact hlo
 replace hn:=mK hn;replace hwo:=mK hwo;replace hB0:=mK hB0;replace hI:=mK hI;replace hK:=mK hK;replace hloo:=mK hloo;replace hWL:=mK hWL;replace hL:=mK hL;clear hC0 hw hw0 hbl hBl hXl hX hlo;rcases hDX with ⟨rfl,rfl⟩|⟨rfl,rfl⟩
 all_goals
  go_enter Tryz.func25,Tryz.ntmps25
  go_wp2_with (first
   | (go_at_call 29;refine hWL.out.mono ?_;rintro e w1 ⟨rfl,rfl⟩)
   | (go_at_call 68;refine (hWB.out _ hI.out (nT hloo.out hK.out.size)).mono ?_;rintro e w1 ⟨rfl,hI1,hK1⟩;clear hI;have hI:=mK hI1;clear hI1;replace hK:=mK (hK.out.trans hK1);clear hK1)
   | (go_at_call 69;refine (hWS.out _ hI.out (nT hloo.out hK.out.size)).mono ?_;rintro e w1 ⟨⟨m,rfl⟩,hI1,hK1⟩;clear hI;have hI:=mK hI1;clear hI1;replace hK:=mK (hK.out.trans hK1);clear hK1))
  clear hWB hWS hD hWL hL;have st:Hid (∃ k:Nat,k≤n∧Value.int .i64 0=.int .i64 k∧IsWrt lo b (byteCells (C k)) w1∧Kw b lo wo w1):=⟨0,Nat.zero_le _,rfl,hI.out,hK.out⟩
  clear hI hK;go_loopw [26] (fun i wr=>∃ k:Nat,k≤n∧i=.int .i64 k∧IsWrt lo b (byteCells (C k)) wr∧Kw b lo wo wr) (fun i _=>n-(RowKit.intOf i).toNat)
  case atStart=>exact st.out
  case round=>
   clear st;obtain ⟨k,hk,rfl,hI,hK⟩:=hrel;obtain ⟨w2,rfl⟩:=nmE (wr:World);by_cases hlt:k<n
   ·have hkl:k<os.length:=by rw [←hn.out];exact hlt
    obtain ⟨b',o,c',x1,-,hrg,hv⟩:=(HL.out w2 hK).get (by decide) hkl;rw [←hn.out] at x1;simp only [Value.slice.injEq,true_and] at x1;obtain ⟨rfl,rfl⟩:=x1;have hnx:=HN.out _ (List.getElem_mem hkl);have hcs:=HCs.out k hkl;have hcl:=HCl.out (k+1) (by omega);have hkn:(k+1)*65537≤n*65537:=Nat.mul_le_mul_right _ (by omega);obtain ⟨x,hx⟩:=nmE (os[k].1);rw [←hx] at hnx hcs hv;obtain ⟨p,e0⟩:=hv.fv;rw [e0] at hv hrg;replace hrg:w2.rangeAt b' (o+k*4) [.bool p.b1,.slice p.a1 p.n1 p.c1,.bool p.b2,.slice p.a2 p.n2 p.c2]:=hrg;obtain ⟨w3,hw3⟩:=nmE (w2.alloc (.cells #[.bool p.b1,.slice p.a1 p.n1 p.c1,.bool p.b2,.slice p.a2 p.n2 p.c2] 28));have hE3:=aLe1 hw3;have zV:=aL10 hw3;have KT:=mK (fun W (e:Ext w3 W)=>Ml (.agg #[.bool p.b1,.slice p.a1 p.n1 p.c1,.bool p.b2,.slice p.a2 p.n2 p.c2]) x W hnx (hv.ext (hE3.trans e)) (HT.out W (hK.trans (Kw.of _ _ (hE3.trans e)))));obtain ⟨T,hTx⟩:=nmE (An x);rw [←hTx] at KT hcs;have hl1:(C k).length+1≤140737488355328:=by rw [hcs,List.length_append,List.length_cons] at hcl;omega
    have hl2:(C k++[32]).length+T.length≤140737488355328:=by rw [hcs,List.length_append,List.length_cons] at hcl;rw [List.length_append,List.length_singleton];omega
    have hWB:=mK (fun W h hl=>Zy lo b (C k) W h hl1 hl);have hWS:=mK (fun W h hl=>Zx lo b (C k++[32]) T W h hl2 hl);rw [show C k++[32]++T=C (k+1) by rw [hcs];simp] at hWS;have hI3:=mK (hI.ext hE3);have hK3:=mK (hK.trans (Kw.of _ _ hE3));replace hE3:=mK hE3;replace zV:=mK zV;replace hw3:=mK hw3;replace hrg:=mK hrg;clear hI hK hv e0 hx hnx hcs hcl hl1 hl2 hTx hkn;have tok:Tok 8:=.mk _
    go_wp2_with (first
     | (replace tok:Tok 9:=nxT 8 tok;refine wpList_load_mid (by rfl) 28 (.tmp 28) rfl b' (o+k*4) rfl [.bool p.b1,.slice p.a1 p.n1 p.c1,.bool p.b2,.slice p.a2 p.n2 p.c2] _ hrg.out Tryz.underlying28 rfl (by kernel_rfl) ?_)
     | (replace tok:Tok 10:=nxT 9 tok;rw [←hw3.out];refine wpList_load_row (by rfl) 28 (.tmp 7) rfl (w2.heap.size) rfl 28 #[.bool p.b1,.slice p.a1 p.n1 p.c1,.bool p.b2,.slice p.a2 p.n2 p.c2] (0,0) _ zV.out Tryz.underlying28 rfl (by kernel_rfl) ?_)
     | (replace tok:Tok 11:=nxT 10 tok;go_at_call 27;refine (KT.out _ (xR _)).mono ?_;rintro e w4 ⟨rfl,hE4⟩;replace hI3:=mK (hI3.out.ext hE4);replace hK3:=mK (hK3.out.trans (Kw.of _ _ hE4));clear hE4)
     | (replace tok:Tok 12:=nxT 11 tok;go_at_call 68;refine (hWB.out _ hI3.out (nT hloo.out hK3.out.size)).mono ?_;rintro e w5 ⟨rfl,hI1,hK1⟩;clear hI3;have hI3:=mK hI1;clear hI1;replace hK3:=mK (hK3.out.trans hK1);clear hK1)
     | ((have _t:Tok 12:=tok);clear _t;clear tok;go_at_call 69;refine (hWS.out _ hI3.out (nT hloo.out hK3.out.size)).mono ?_;rintro e w6 ⟨⟨m,rfl⟩,hI1,hK1⟩;clear hI3;have hI3:=mK hI1;clear hI1;replace hK3:=mK (hK3.out.trans hK1);clear hK1))
    go_roundw
    case rel=>exact ⟨k+1,by omega,by go_num,hI3.out,hK3.out⟩
    case measure=>simp [RowKit.intOf]<;>omega
   ·obtain rfl:n=k:=by omega
    replace hI:=mK hI;replace hK:=mK hK;go_wp2_with fail;go_end0;exact ⟨rfl,hI.out,hwo.out ▸ hK.out⟩
end Go.Proofs.YtlknpnommcohkaaGreatDoor
