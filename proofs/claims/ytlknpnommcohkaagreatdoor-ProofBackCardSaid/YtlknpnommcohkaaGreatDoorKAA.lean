/-
  Small general lemmas: no program. Limbs: lists of numbers below 2^32, the lowest first; the one list without noughts at its end. No program. Regions that draw their order and hold calls that make memory: one walk serves every order. No program.
  Each operation ahead of the tail either gives one known value in every world that the region may come to ('.val c'), or a value of which a static predicate holds, which stays true in all later worlds ('.pred'). What is read in memory stays readable: slices of limbs, whole numbers. No function. exact: trim, signed, slices.Clone, own, size. exact: slices.Clone, own, size.
-/
import Derived.WalkKit
import Derived.WalkSpells
import Derived.WalkLawsBesides
import Derived.Deep.QuietTactic
import Derived.BigQuiet
import Derived.Test.YtlknpnommcohkaaGreatDoorProg
import Derived.KernelRfl
import Derived.Laws.CopyOwn
import Derived.Laws.AppendOwnNone
set_option maxHeartbeats 6400000
namespace Go.Proofs.YtlknpnommcohkaaGreatDoor
set_option maxRecDepth 100000
open Go Go.RowKit
@[go_sem] theorem run_store_complex_any {P:Program}{w:World}(a:Addr)(m:Mode)(k:FloatKind)(x y:Nat):(store a (.complex k x y) m).run P w=stored P w a (.complex k x y) m:=run_store P w a _ m rfl
@[go_sem] theorem run_store_float_any {P:Program}{w:World}(a:Addr)(m:Mode)(k:FloatKind)(x:Nat):(store a (.float k x) m).run P w=stored P w a (.float k x) m:=run_store P w a _ m rfl
theorem mK {p:Prop}(h:p):Hid p:=h
theorem nR (n:Nat):n≤n:=Nat.le_refl n
theorem nT {a b c:Nat}(h:a≤b)(k:b≤c):a≤c:=Nat.le_trans h k
theorem Zo {w w':World}(h:∃ n,w'=w.drewN n)(a:Addr):w'.cell? a=w.cell? a:=by
 obtain ⟨n,rfl⟩:=h;rfl
def Row (w:World)(a:Option Addr)(xs:List Value):Prop:=
 ∃ b off,(xs≠[]→a=some ⟨b,off,none⟩)∧∀ j,j<xs.length→w.cell? ⟨b,off+j,none⟩=some (xs.getD j undef)
theorem Et {k:IntKind}{a a':Int}(h:a=a'):Ending.returned (.int k a)=.returned (.int k a'):=by rw [h]
theorem Pa {k k':IntKind}{a a' b b':Int}(h:a=a')(h':b=b'):Ending.returned (.tuple #[.int k a,.int k' b])=.returned (.tuple #[.int k a',.int k' b']):=by rw [h,h']
theorem Ac8 {a a':Bool}(h:a=a'):Ending.returned (.bool a)=.returned (.bool a'):=by rw [h]
theorem nmE {α:Sort _}(e:α):∃ x,x=e:=⟨e,rfl⟩
def val:List Nat→Nat
 | []=>0
 | x::l=>x+4294967296*val l
def OkL (l:List Nat):Prop:=∀ x∈l,x<4294967296
def lim (n:Nat):List Nat:=if h:n=0 then [] else n%4294967296::lim (n/4294967296)
termination_by n
decreasing_by exact Nat.div_lt_self (by omega) (by omega)
theorem Az:lim 0=[]:=by unfold lim;simp
theorem Cg {n:Nat}(h:n≠0):lim n=n%4294967296::lim (n/4294967296):=by
 rw [lim];simp [h]
theorem Pq {P:Nat→Prop}(h0:P 0)(h1:∀ n,n≠0→P (n/4294967296)→P n)(n:Nat):P n:=by
 induction n using Nat.strongRecOn with
 | _ n ih=>
  by_cases h:n=0
  ·subst h;exact h0
  ·exact h1 n h (ih _ (Nat.div_lt_self (by omega) (by omega)))
theorem Bn (n:Nat):val (lim n)=n:=by
 refine Pq (P:=fun n=>val (lim n)=n) ?_ ?_ n
 ·rw [Az];rfl
 ·intro n h ih
  rw [Cg h,val,ih];omega
theorem By (n:Nat):OkL (lim n):=by
 refine Pq (P:=fun n=>OkL (lim n)) ?_ ?_ n
 ·rw [Az];intro x hx;cases hx
 ·intro n h ih
  rw [Cg h];intro x hx;cases hx with
  | head=>omega
  | tail _ hx=>exact ih x hx
theorem okL_cons {x:Nat}{l:List Nat}:OkL (x::l)↔x<4294967296∧OkL l:=by
 unfold OkL;simp
theorem okL_append {l m:List Nat}:OkL (l++m)↔OkL l∧OkL m:=by
 unfold OkL;simp only [List.mem_append];constructor
 ·intro h
  exact ⟨fun x hx=>h x (.inl hx),fun x hx=>h x (.inr hx)⟩
 ·rintro ⟨h1,h2⟩ x (hx|hx)
  ·exact h1 x hx
  ·exact h2 x hx
theorem Cf {l:List Nat}(h:OkL l)(n:Nat):OkL (l.take n):=fun x hx=>h x (List.mem_of_mem_take hx)
theorem Rp {l:List Nat}(h:OkL l)(n:Nat):OkL (l.drop n):=fun x hx=>h x (List.mem_of_mem_drop hx)
theorem As {l:List Nat}(h:OkL l)(k:Nat):l.getD k 0<4294967296:=by
 by_cases hk:k<l.length
 ·have:=h l[k] (List.getElem_mem hk)
  simpa [hk] using this
 ·simp [List.getD_eq_getElem?_getD,List.getElem?_eq_none (show l.length≤k by omega)]
theorem Dt (l m:List Nat):val (l++m)=val l+4294967296 ^ l.length*val m:=by
 induction l with
 | nil=>simp [val]
 | cons x l ih=>
  simp only [List.cons_append,val,ih,List.length_cons,Nat.pow_succ];rw [Nat.mul_add,←Nat.add_assoc,←Nat.mul_assoc,Nat.mul_comm 4294967296 (4294967296 ^ l.length)]
theorem Cs {l:List Nat}(h:OkL l):val l<4294967296 ^ l.length:=by
 induction l with
 | nil=>simp [val]
 | cons x l ih=>
  rw [okL_cons] at h;have:=ih h.2;simp only [val,List.length_cons,Nat.pow_succ];omega
theorem Hz (n:Nat):val (List.replicate n 0)=0:=by
 induction n with
 | zero=>rfl
 | succ n ih=>simp [List.replicate_succ,val,ih]
theorem Aaa {l:List Nat}(h:val l=0):l=List.replicate l.length 0:=by
 induction l with
 | nil=>rfl
 | cons x l ih=>
  simp only [val] at h;have h1:x=0:=by omega
  have h2:val l=0:=by omega
  rw [List.length_cons,List.replicate_succ,←ih h2,h1]
theorem Pp {l:List Nat}(h:OkL l)(hl:l=[]∨l.getLastD 0≠0):lim (val l)=l:=by
 induction l with
 | nil=>exact Az
 | cons x l ih=>
  rw [okL_cons] at h
  have hne:val (x::l)≠0:=by
   intro h0;have hz:=Aaa h0;rcases hl with hl|hl
   ·cases hl
   ·apply hl
    rw [hz];simp [List.getLastD_eq_getLast?,List.getLast?_replicate]
  rw [Cg hne];have e1:val (x::l)%4294967296=x:=by simp only [val];omega
  have e2:val (x::l)/4294967296=val l:=by simp only [val];omega
  rw [e1,e2,ih h.2];rcases hl with hl|hl
  ·cases hl
  ·by_cases h0:l=[]
   ·exact .inl h0
   ·refine .inr ?_
    intro h1;apply hl;obtain ⟨y,m,rfl⟩:=List.exists_cons_of_ne_nil h0;simpa [List.getLastD] using h1
theorem Cb {n k:Nat}(h:n<4294967296 ^ k):(lim n).length≤k:=by
 induction k generalizing n with
 | zero=>simp at h;subst h;simp [Az]
 | succ k ih=>
  by_cases h0:n=0
  ·subst h0;simp [Az]
  ·rw [Cg h0,List.length_cons]
   have:n/4294967296<4294967296 ^ k:=by
    rw [Nat.pow_succ] at h;exact Nat.div_lt_of_lt_mul (by rw [Nat.mul_comm];exact h)
   have:=ih this;omega
theorem Fi (n:Nat):n<4294967296 ^ (lim n).length:=by
 have:=Cs (By n)
 rwa [Bn] at this
theorem Cq {m n:Nat}(h:m≤n):(lim m).length≤(lim n).length:=Cb (Nat.lt_of_le_of_lt h (Fi n))
theorem He {l:List Nat}(h:OkL l):(lim (val l)).length≤l.length:=Cb (Cs h)
theorem Aag {l:List Nat}(h:OkL l):l.take (lim (val l)).length=lim (val l):=by
 induction l with
 | nil=>simp [val,Az]
 | cons x l ih=>
  have h2:=okL_cons.1 h;by_cases h0:val (x::l)=0
  ·rw [h0,Az];rfl
  ·rw [Cg h0]
   have e1:val (x::l)%4294967296=x:=by simp only [val];omega
   have e2:val (x::l)/4294967296=val l:=by simp only [val];omega
   rw [e1,e2,List.length_cons,List.take_succ_cons,ih h2.2]
theorem Ao (l:List Nat)(k:Nat)(h:k<l.length):val (l.take (k+1))=val (l.take k)+4294967296 ^ k*l.getD k 0:=by
 rw [List.take_succ_eq_append_getElem h,Dt];simp [val,h,Nat.min_eq_left (Nat.le_of_lt h)]
theorem Ea (l:List Nat)(k:Nat):val l=val (l.take k)+4294967296 ^ (l.take k).length*val (l.drop k):=by
 rw [←Dt,List.take_append_drop]
def nl (x:Int):Nat:=(lim x.natAbs).length
theorem Adw (m n:Nat):(lim (m+n)).length≤max (lim m).length (lim n).length+1:=by
 refine Cb ?_;have h1:=Fi m;have h2:=Fi n;have h3:4294967296 ^ (lim m).length≤4294967296 ^ max (lim m).length (lim n).length:=Nat.pow_le_pow_right (by omega) (by omega);have h4:4294967296 ^ (lim n).length≤4294967296 ^ max (lim m).length (lim n).length:=Nat.pow_le_pow_right (by omega) (by omega);rw [Nat.pow_succ];omega
theorem Adv (m n:Nat):(lim (m*n)).length≤(lim m).length+(lim n).length:=by
 refine Cb ?_;rw [Nat.pow_add];exact Nat.mul_lt_mul'' (Fi m) (Fi n)
theorem Md {n:Nat}(h:n<4294967296):(lim n).length≤1:=Cb (by simpa using h)
theorem Nb {l m:List Nat}(hl:OkL l)(k:Nat)(hk:k<l.length)(hlen:l.length=m.length)(hd:l.drop (k+1)=m.drop (k+1))(h:l.getD k 0<m.getD k 0):val l<val m:=by
 have e1:=Ea l (k+1);have e2:=Ea m (k+1);rw [←hd] at e2;have t1:(l.take (k+1)).length=k+1:=by rw [List.length_take];omega
 have t2:(m.take (k+1)).length=k+1:=by rw [List.length_take];omega
 rw [t1] at e1;rw [t2] at e2;have f1:=Ao l k hk;have f2:=Ao m k (by omega);have g:=Cs (Cf hl k);rw [List.length_take,Nat.min_eq_left (by omega)] at g;have:4294967296 ^ k*(l.getD k 0+1)≤4294967296 ^ k*m.getD k 0:=Nat.mul_le_mul_left _ h;rw [Nat.mul_add,Nat.mul_one] at this;omega
theorem Kc {m n:Nat}(h:(lim m).length<(lim n).length):m<n:=by
 rcases Nat.lt_or_ge m n with h1|h1
 ·exact h1
 ·have:=Cq h1
  omega
def limV (l:List Nat):List Value:=l.map fun x:Nat=>.int .u32 (x:Int)
theorem Cc (l:List Nat):(limV l).length=l.length:=by simp [limV]
theorem Ny (l:List Nat)(n:Nat):limV (l.take n)=(limV l).take n:=by simp [limV,List.map_take]
theorem Dg (l:List Nat)(j:Nat)(h:j<l.length):(limV l).getD j undef=.int .u32 ((l.getD j 0:Nat):Int):=by simp [limV,h]
end Go.Proofs.YtlknpnommcohkaaGreatDoor
namespace Go.Proofs.YtlknpnommcohkaaGreatDoor
set_option maxRecDepth 100000
open Go Go.RowKit
def Aloof.blk1:Value→Option Nat
 | .slice (some a) _ _=>some a.block
 | .pointer (some a)=>some a.block
 | _=>none
def Aloof.blks (v:Value):List Nat:=v.cells.toList.filterMap Aloof.blk1
open Aloof (blks)
inductive FSpec where
 | val (c:Value)
 | pred (Φ:World→Value→Prop)
 | fresh (Φ:World→Value→Prop)
def FSpec.ok:FSpec→World→Value→Prop
 | .val c,_,v=>v=c
 | .pred Φ,W,v=>Φ W v
 | .fresh Φ,W,v=>Φ W v∧∀ g∈blks v,g<W.heap.size
def FSpec.okN:FSpec→World→World→Value→Prop
 | .val c,_,_,v=>v=c
 | .pred Φ,_,W,v=>Φ W v
 | .fresh Φ,W0,W,v=>Φ W v∧∀ g∈blks v,W0.heap.size≤g∧g<W.heap.size
def FSpec.isFresh:FSpec→Bool
 | .fresh _=>true
 | _=>false
theorem FSpec.okN.ok:∀ {s:FSpec} {W W':World} {v:Value},s.okN W W' v→s.ok W' v
 | .val _,_,_,_,h=>h
 | .pred _,_,_,_,h=>h
 | .fresh _,_,_,_,h=>⟨h.1,fun g hg=>(h.2 g hg).2⟩
theorem FSpec.okN.new:∀ {s:FSpec} {W W':World} {v:Value},s.okN W W' v→s.isFresh=true→∀ g∈blks v,W.heap.size≤g
 | .val _,_,_,_,_,e=>by cases e
 | .pred _,_,_,_,_,e=>by cases e
 | .fresh _,_,_,_,h,_=>fun g hg=>(h.2 g hg).1
def Da (P:Program)(S:World→Value→Prop):Result Next→Prop
 | .ok (.value v) w=>S w v
 | .ok .skip w=>S w undef
 | .ok (.enter f args) w=>Calls P f args w fun e w'=>∃ v,e=.returned v∧S w' v
 | _=>False
@[go_sem] theorem givesV_value (P:Program)(S:World→Value→Prop)(v:Value)(w:World):Da P S (.ok (.value v) w)=S w v:=rfl
@[go_sem] theorem givesV_skip (P:Program)(S:World→Value→Prop)(w:World):Da P S (.ok .skip w)=S w undef:=rfl
@[go_sem] theorem givesV_enter (P:Program)(S:World→Value→Prop)(f:FuncId)(args:Array Value)(w:World):Da P S (.ok (.enter f args) w)=Calls P f args w fun e w'=>∃ v,e=.returned v∧S w' v:=rfl
theorem Ia {P:Program}{S:World→Value→Prop}{o:Oper}{a:Act}{K:Act→World→Prop}{Q:Exit→Act→World→Prop}{r:Result Next}
  (h:Da P S r) (hK:∀ w v,S w v→K (a.put o.dst v) w):o.upon P a K Q r:=by
 unfold Da at h;split at h
 ·exact hK _ _ h
 ·exact hK _ _ h
 ·refine Calls.mono h fun e w' he=>?_
  obtain ⟨v,rfl,hs⟩:=he;exact hK _ _ hs
 ·exact h.elim
def leans (l:List Oper)(o:Oper)(j:Nat):Bool:=
 match (l[j]?).bind (·.dst) with
 | some d=>(o.looksAt l.toArray).contains d
 | none=>false
def Bx (sel:Nat→Bool)(W:World):List (Nat×FSpec×Value)→Prop
 | []=>True
 | p::F=>(sel p.1=true→p.2.1.ok W p.2.2)∧Bx sel W F
theorem Ev {sel:Nat→Bool}{W:World}:∀ {F:List (Nat×FSpec×Value)},(∀ p∈F,sel p.1=true→p.2.1.ok W p.2.2)→Bx sel W F
 | [],_=>trivial
 | p::_,h=>⟨h p (List.mem_cons_self ..),Ev fun q hq=>h q (List.mem_cons_of_mem _ hq)⟩
def freeSteps (P:Program)(l0:List Oper)(R:World→World→Prop)(w0:World)(Q:Exit→Act→World→Prop):Nat→List FSpec→List Oper→Act→List (Nat×FSpec×Value)→Prop
 | _,[],l,a,F=>∀ W,R w0 W→Bx (fun _=>true) W F→wpList P l0.toArray Q l a W
 | _,_::_,[],_,_=>False
 | k,.val c::ss,o::l,a,F=>
  (∀ W,R w0 W→Bx (leans l0 o) W F→if Region.wanted o (yielded l0.toArray a.tmps) then Da P (fun W' v=>R W W'∧v=c) ((execOp a.eval o).run P W) else undef=c) ∧
   freeSteps P l0 R w0 Q (k+1) ss l (a.put o.dst c) F
 | k,.pred Φ::ss,o::l,a,F=>
  (∀ W,R w0 W→Bx (leans l0 o) W F→if Region.wanted o (yielded l0.toArray a.tmps) then Da P (fun W' v=>R W W'∧Φ W' v) ((execOp a.eval o).run P W) else Φ W undef) ∧
   ∀ v,freeSteps P l0 R w0 Q (k+1) ss l (a.put o.dst v) ((k,.pred Φ,v)::F)
 | _,.fresh _::_,_::_,_,_=>False
def Mr (F:List (Nat×FSpec×Value)):Prop:=∀ p q,p∈F→q∈F→p.2.1.isFresh=true→q.2.1.isFresh=true→p.1≠q.1→∀ g∈blks p.2.2,g∉blks q.2.2
def Ds (o:Oper)(j:Nat):Bool:=o.after.toList.any fun e=>Region.binds .any e&&e.on==j
def ancB (l:List Oper):Nat→Oper→Nat→Bool
 | 0,o,j=>Ds o j
 | f+1,o,j=>Ds o j||o.after.toList.any fun e=>Region.binds .any e&&(match l[e.on]? with|some o'=>ancB l f o' j|none=>false)
def Hs (pre:List Nat)(l:List Oper)(n i:Nat)(o:Oper):Bool:=
 (o.after.toList.all fun e=>!Region.binds .any e||decide (e.on<i)) &&
 (if i<n then
  (List.range l.length).all fun j=>match l[j]? with
   | some oj=>(match oj.dst with
    | some d=>(!(o.looksAt l.toArray).contains d||(decide (j<i)&&Ds o j)||decide (n≤j))&&(j==i||o.dst != some d)
    | none=>true)
   | none=>true
 else (List.range i).all fun j=>pre.contains j||ancB l 16 o j)
def Jc (pre:List Nat)(n size:Nat)(l:List Oper):Bool:=
 Region.noSelect l.toArray&&decide (n≤l.length)&&(l.all fun o=>match o.dst with|some d=>decide (d<size)|none=>true) &&
  (List.range l.length).all fun i=>match l[i]? with|some o=>Hs pre l n i o|none=>true
def Ib (P:Program)(l0:List Oper)(R T:World→World→Prop)(A B:World→Prop)(K k:Nat)(s:FSpec)(o:Oper)(a:Act)(F:List (Nat×FSpec×Value)):Prop:=
 if k=K then ∀ W,A W→Bx (leans l0 o) W F→(if Region.wanted o (yielded l0.toArray a.tmps) then Da P (fun W' v=>T W W'∧B W'∧s.okN W W' v) ((execOp a.eval o).run P W) else False)
 else ∀ W,A W∨B W→Bx (leans l0 o) W F→(if Region.wanted o (yielded l0.toArray a.tmps) then Da P (fun W' v=>R W W'∧s.okN W W' v) ((execOp a.eval o).run P W) else s.ok W undef)
def Bk (P:Program)(l0:List Oper)(R T:World→World→Prop)(A B:World→Prop)(K:Nat)(Q:Exit→Act→World→Prop):Nat→List FSpec→List Oper→Act→List (Nat×FSpec×Value)→Prop
 | _,[],l,a,F=>∀ W,B W→Bx (fun _=>true) W F→Mr F→wpList P l0.toArray Q l a W
 | _,_::_,[],_,_=>False
 | k,.val c::ss,o::l,a,F=>Ib P l0 R T A B K k (.val c) o a F∧Bk P l0 R T A B K Q (k+1) ss l (a.put o.dst c) F
 | k,.pred Φ::ss,o::l,a,F=>Ib P l0 R T A B K k (.pred Φ) o a F∧∀ v,Bk P l0 R T A B K Q (k+1) ss l (a.put o.dst v) ((k,.pred Φ,v)::F)
 | k,.fresh Φ::ss,o::l,a,F=>Ib P l0 R T A B K k (.fresh Φ) o a F∧∀ v,Bk P l0 R T A B K Q (k+1) ss l (a.put o.dst v) ((k,.fresh Φ,v)::F)
def StableO (T:World→World→Prop)(l0:List Oper)(K:Nat):Nat→List Oper→List FSpec→Prop
 | k,o::l,s::ss=>((k=K∨ancB l0 16 o K=true)∨∀ W W' v,T W W'→s.ok W v→s.ok W' v)∧StableO T l0 K (k+1) l ss
 | _,_,_=>True
theorem StableO.at_ {T:World→World→Prop}{l0:List Oper}{K:Nat}:∀ {l:List Oper} {ss:List FSpec} {k:Nat},StableO T l0 K k l ss→∀ j oj s,l[j]? = some oj→ss[j]? = some s→k+j≠K→ancB l0 16 oj K=false→∀ W W' v,T W W'→s.ok W v→s.ok W' v
 | [],_,_,_,_,_,_,h1,_=>by simp at h1
 | _::_,[],_,_,_,_,_,_,h2=>by simp at h2
 | o::l,s::ss,k,h,0,oj,s',h1,h2=>by
  intro h3 h4 W W' v
  simp at h1 h2
  subst h1 h2
  rcases h.1 with (e|e)|e
  ·exact absurd e h3
  ·rw [h4] at e
   cases e
  ·exact e W W' v
 | o::l,s::ss,k,h,j+1,oj,s',h1,h2=>by
  intro h3 h4
  exact StableO.at_ h.2 j oj s' (by simpa using h1) (by simpa using h2) (by omega) h4
theorem StableO.at' {T:World→World→Prop}{l:List Oper}{K:Nat}{ss:List FSpec}(h:StableO T l K 0 l ss):∀ j oj s,l[j]? = some oj→ss[j]? = some s→j≠K→ancB l 16 oj K=false→∀ W W' v,T W W'→s.ok W v→s.ok W' v:=
 fun j oj s h1 h2 h3=>h.at_ j oj s h1 h2 (by omega)
theorem Ni {P:Program}{l0:List Oper}{R T:World→World→Prop}{A B:World→Prop}{K k:Nat}{c:Value}{o:Oper}{a:Act}{F:List (Nat×FSpec×Value)}(h:k≠K)
  (hh:∀ W,A W∨B W→Bx (leans l0 o) W F→(if Region.wanted o (yielded l0.toArray a.tmps) then Da P (fun W' v=>R W W'∧v=c) ((execOp a.eval o).run P W) else undef=c)):Ib P l0 R T A B K k (.val c) o a F:=by
 unfold Ib;rw [if_neg h];exact hh
theorem Lp {P:Program}{l0:List Oper}{R T:World→World→Prop}{A B:World→Prop}{K k:Nat}{Φ:World→Value→Prop}{o:Oper}{a:Act}{F:List (Nat×FSpec×Value)}(h:k≠K)
  (hh:∀ W,A W∨B W→Bx (leans l0 o) W F→(if Region.wanted o (yielded l0.toArray a.tmps) then Da P (fun W' v=>R W W'∧Φ W' v) ((execOp a.eval o).run P W) else Φ W undef)):Ib P l0 R T A B K k (.pred Φ) o a F:=by
 unfold Ib;rw [if_neg h];exact hh
section
variable {pre:List Nat} {P:Program} {l0:List Oper} {R T:World→World→Prop} {A B:World→Prop} {K:Nat} {Q:Exit→Act→World→Prop}
def Br (a0:Act)(l:List Oper)(vs:Nat→Value):Nat→Act
 | 0=>a0
 | k+1=>match l[k]? with
  | some o=>(Br a0 l vs k).put o.dst (vs k)
  | none=>Br a0 l vs k
def Cp (specs:List FSpec)(vs:Nat→Value):Nat→List (Nat×FSpec×Value)
 | 0=>[]
 | k+1=>match specs[k]? with
  | some (.pred Φ)=>(k,.pred Φ,vs k)::Cp specs vs k
  | some (.fresh Φ)=>(k,.fresh Φ,vs k)::Cp specs vs k
  | _=>Cp specs vs k
def fits (specs:List FSpec)(vs:Nat→Value):Prop:=∀ k c,specs[k]? = some (.val c)→vs k=c
theorem Nh {specs:List FSpec}{a0:Act}(h:Bk P l0 R T A B K Q 0 specs l0 a0 [])(vs:Nat→Value)(hv:fits specs vs) :
  ∀ k,k≤specs.length→Bk P l0 R T A B K Q k (specs.drop k) (l0.drop k) (Br a0 l0 vs k) (Cp specs vs k):=by
 intro k
 induction k with
 | zero=>intro _;simpa [Br,Cp] using h
 | succ k ih=>
  intro hk;have ih:=ih (by omega);rw [List.drop_eq_getElem_cons (show k<specs.length by omega)] at ih;have hs:specs[k]? = some specs[k]:=List.getElem?_eq_getElem (by omega);by_cases hl:k<l0.length
  ·rw [List.drop_eq_getElem_cons hl] at ih
   have ho:l0[k]? = some l0[k]:=List.getElem?_eq_getElem hl;generalize hsp:specs[k]=s at ih hs;cases s with
   | val c=>
    have hc:=hv k c hs;simp only [Bk] at ih;simp only [Br,ho,Cp,hs,hc];exact ih.2
   | pred Φ=>
    simp only [Bk] at ih;simp only [Br,ho,Cp,hs];exact ih.2 (vs k)
   | fresh Φ=>
    simp only [Bk] at ih;simp only [Br,ho,Cp,hs];exact ih.2 (vs k)
  ·rw [List.drop_eq_nil_of_le (show l0.length≤k by omega)] at ih
   simp [Bk] at ih
theorem Mk (a0:Act)(l:List Oper)(vs:Nat→Value)(k:Nat):(Br a0 l vs k).defers=a0.defers:=by
 induction k with
 | zero=>rfl
 | succ k ih=>
  simp only [Br];split
  ·rename_i o _
   cases h:o.dst<;>simp [Act.put,ih]
  ·exact ih
theorem Pv (a0:Act)(l:List Oper)(vs:Nat→Value)(k:Nat):(Br a0 l vs k).tmps.size=a0.tmps.size:=by
 induction k with
 | zero=>rfl
 | succ k ih=>
  simp only [Br];split
  ·rename_i o _
   cases h:o.dst<;>simp [Act.put,ih]
  ·exact ih
theorem Gb (a0:Act)(l:List Oper)(vs:Nat→Value)(k t:Nat)(h:∀ j o,j<k→l[j]? = some o→o.dst≠some t) :
  (Br a0 l vs k).tmps[t]? = a0.tmps[t]?:=by
 induction k with
 | zero=>rfl
 | succ k ih=>
  have ih:=ih fun j o hj=>h j o (by omega);simp only [Br];split
  ·rename_i o ho
   have:=h k o (by omega) ho;cases hd:o.dst with
   | none=>simpa [Act.put,hd] using ih
   | some d=>
    have hne:d≠t:=fun e=>this (by rw [hd,e]);simp only [Act.put,Array.getElem?_setIfInBounds_ne hne];exact ih
  ·exact ih
theorem Se (a0:Act)(l:List Oper)(vs:Nat→Value)(k t j:Nat)(o:Oper)(hj:j<k)(ho:l[j]? = some o)(hd:o.dst=some t)(ht:t<a0.tmps.size)
  (h:∀ i o',i≠j→l[i]? = some o'→o'.dst≠some t):(Br a0 l vs k).tmps[t]? = some (vs j):=by
 induction k with
 | zero=>omega
 | succ k ih=>
  simp only [Br];by_cases hjk:j=k
  ·subst hjk
   rw [ho];simp only [Act.put,hd];rw [Array.getElem?_setIfInBounds_self_of_lt (by rw [Pv];exact ht)]
  ·have ih:=ih (by omega)
   split
   ·rename_i o' ho'
    have:=h k o' (fun e=>hjk e.symm) ho';cases hd':o'.dst with
    | none=>simpa [Act.put,hd'] using ih
    | some d=>
     have hne:d≠t:=fun e=>this (by rw [hd',e]);simp only [Act.put,Array.getElem?_setIfInBounds_ne hne];exact ih
   ·exact ih
theorem Fu {specs:List FSpec}{vs:Nat→Value}{k:Nat}{p:Nat×FSpec×Value}(h:p∈Cp specs vs k):p.1<k∧specs[p.1]? = some p.2.1∧p.2.2=vs p.1:=by
 induction k with
 | zero=>simp [Cp] at h
 | succ k ih=>
  simp only [Cp] at h;split at h
  ·rename_i Φ hs
   rcases List.mem_cons.1 h with h|h
   ·subst h
    exact ⟨by simp,hs,rfl⟩
   ·have:=ih h
    exact ⟨by omega,this.2⟩
  ·rename_i Φ hs
   rcases List.mem_cons.1 h with h|h
   ·subst h
    exact ⟨by simp,hs,rfl⟩
   ·have:=ih h
    exact ⟨by omega,this.2⟩
  ·have:=ih h
   exact ⟨by omega,this.2⟩
theorem Oc {p q:Nat→Bool}:∀ (l:List Nat),(∀ x∈l,q x=true→p x=true)→(l.filter q).length≤(l.filter p).length
 | [],_=>nR _
 | x::l,h=>by
  have ih:=Oc l fun y hy=>h y (List.mem_cons_of_mem _ hy)
  by_cases hq:q x=true
  ·simp [hq,h x (List.mem_cons_self ..) hq,ih]
  ·by_cases hp:p x=true
   ·simp [hq,hp];omega
   ·simp [hq,hp,ih]
theorem Ob {p q:Nat→Bool}{i:Nat}:∀ (l:List Nat),(∀ x∈l,q x=true→p x=true)→i∈l→p i=true→q i=false→(l.filter q).length<(l.filter p).length
 | x::l,h,hi,hp,hq=>by
  have hl:=Oc l fun y hy=>h y (List.mem_cons_of_mem _ hy)
  by_cases hx:x=i
  ·subst hx
   simp [hp,hq]
   omega
  ·have hi':i∈l:=by
    rcases List.mem_cons.1 hi with e|e
    ·exact absurd e.symm hx
    ·exact e
   have ih:=Ob l (fun y hy=>h y (List.mem_cons_of_mem _ hy)) hi' hp hq;by_cases hqx:q x=true
   ·simp [hqx,h x (List.mem_cons_self ..) hqx,ih]
   ·by_cases hpx:p x=true
    ·simp [hqx,hpx];omega
    ·simp [hqx,hpx,ih]
def left (l:List Oper)(listed:Array Bool):Nat:=((List.range l.length).filter fun i=>!listed.getD i true).length
theorem Rw {l:List Oper}{listed:Array Bool}{i:Nat}(hi:i<l.length)(h:listed.getD i true=false):left l (listed.setIfInBounds i true)<left l listed:=by
 refine Ob _ (fun x _ hx=>?_) (List.mem_range.2 hi) (by simpa using h) ?_
 ·by_cases e:i=x
  ·subst e;simpa using h
  ·rwa [getD_set_ne true e] at hx
 ·have hlt:i<listed.size:=by
   rcases Nat.lt_or_ge i listed.size with h'|h'
   ·exact h'
   ·simp [Array.getElem?_eq_none h'] at h
  simp [hlt]
theorem Adz {l:List Oper}{listed:Array Bool}{n:Nat}(h:∀ i,n≤i→i<l.length→listed.getD i true=false):l.length-n≤left l listed:=by
 unfold left;generalize l.length=L at h
 induction L with
 | zero=>simp
 | succ L ih=>
  have ih:=ih fun i h1 h2=>h i h1 (by omega);rw [List.range_succ,List.filter_append,List.length_append];by_cases hn:n≤L
  ·have:=h L hn (by omega)
   have e:([L].filter fun i=>!listed.getD i true)=[L]:=List.filter_eq_self.2 fun x hx=>by
    simp only [List.mem_singleton] at hx;rw [hx,this];rfl
   rw [e,List.length_singleton];omega
  ·omega
theorem Fj {listed:Array Bool}{i:Nat}(h:listed.getD i true=false):i<listed.size:=by
 rcases Nat.lt_or_ge i listed.size with h'|h'
 ·exact h'
 ·simp [Array.getElem?_eq_none h'] at h
theorem Df {listed:Array Bool}{i:Nat}(h:i<listed.size):listed.getD i false=true∨listed.getD i true=false:=by
 simp [h]
theorem Eg {listed:Array Bool}(hcl:∀ i o,listed.getD i false=true→l0[i]? = some o→∀ e∈o.after,Region.binds .any e=true→listed.getD e.on false=true) :
  ∀ (f:Nat) (o:Oper) (j:Nat),(∀ e∈o.after,Region.binds .any e=true→listed.getD e.on false=true)→ancB l0 f o j=true→listed.getD j false=true:=by
 have direct:∀ (o:Oper) (j:Nat),(∀ e∈o.after,Region.binds .any e=true→listed.getD e.on false=true)→Ds o j=true→listed.getD j false=true:=by
  intro o j h he;simp only [Ds,List.any_eq_true,Bool.and_eq_true,beq_iff_eq] at he;obtain ⟨e,hm,hb,rfl⟩:=he;exact h e (Array.mem_toList_iff.1 hm) hb
 intro f
 induction f with
 | zero=>intro o j h ha;exact direct o j h ha
 | succ f ih=>
  intro o j h ha;simp only [ancB,Bool.or_eq_true] at ha;rcases ha with ha|ha
  ·exact direct o j h ha
  ·simp only [List.any_eq_true,Bool.and_eq_true] at ha
   obtain ⟨e,hm,hb,ha⟩:=ha;split at ha
   ·rename_i o' ho'
    exact ih o' j (hcl e.on o' (h e (Array.mem_toList_iff.1 hm) hb) ho') ha
   ·cases ha
theorem Kn {n:Nat}(htail:∀ i o,n≤i→l0[i]? = some o→∀ j,j<i→j∈pre∨ancB l0 16 o j=true) :
  ∀ (k m:Nat) (listed:Array Bool) (a:Act) (W:World) (fuel:Nat),n≤m→m+k=l0.length→k≤fuel→listed.size=l0.length→(∀ j∈pre,listed.getD j false=true) →
   (∀ i o,listed.getD i false=true→l0[i]? = some o→∀ e∈o.after,Region.binds .any e=true→listed.getD e.on false=true) →
   (∀ i,i<l0.length→(listed.getD i false=true↔i<m)) →
   (∀ i o,l0[i]? = some o→∀ e∈o.after,Region.binds .any e=true→e.on<i) →
   wpList P l0.toArray Q (l0.drop m) a W→wpAny P .any l0.toArray Q fuel listed a W:=by
 intro k
 induction k with
 | zero=>
  intro m listed a W fuel _ hmk _ hsz _ _ hlst _ h
  have hr:Region.ready .any l0.toArray listed=[]:=by
   cases hr:Region.ready .any l0.toArray listed with
   | nil=>rfl
   | cons i r=>
    have:=(mem_ready (md:=.any) (ops:=l0.toArray) (listed:=listed) (j:=i)).1 (by rw [hr];simp);have hlt:=Fj this.1;have h2:=(hlst i (by omega)).2 (by omega);have h3:=this.1;simp [hlt] at h2 h3;rw [h2] at h3;cases h3
  rw [List.drop_eq_nil_of_le (show l0.length≤m by omega)] at h;exact wpAny_done hr h fuel
 | succ k ih=>
  intro m listed a W fuel hnm hmk hfuel hsz hpre hcl hlst hed h;obtain ⟨fuel,rfl⟩:∃ f,fuel=f+1:=⟨fuel-1,by omega⟩
  have hml:m<l0.length:=by omega
  have ho:l0[m]? = some l0[m]:=List.getElem?_eq_getElem hml
  have hun:listed.getD m true=false:=by
   rcases Df (listed:=listed) (i:=m) (by omega) with h1|h1
   ·have:=(hlst m hml).1 h1;omega
   ·exact h1
  have hready:m∈Region.ready .any l0.toArray listed:=by
   rw [mem_ready];exact ⟨hun,_,by simp [hml],fun e he hb=>(hlst e.on (by have:=hed m _ ho e he hb;omega)).2 (hed m _ ho e he hb)⟩
  refine ⟨fun h0=>absurd (h0 ▸ hready) (by simp),fun i hi=>?_⟩
  have him:i=m:=by
   obtain ⟨h1,o,ho',hall⟩:=mem_ready.1 hi;have hlt:=Fj h1;rcases Nat.lt_trichotomy i m with hlt'|he|hgt
   ·have h2:=(hlst i (by omega)).2 hlt'
    simp [hlt] at h1 h2;rw [h2] at h1;cases h1
   ·exact he
   ·have ho'':l0[i]? = some o:=by simpa using ho'
    have:=(htail i o (by omega) ho'' m hgt).elim (fun hp=>hpre m hp) (Eg hcl 16 o m hall);have:=(hlst m hml).1 this;omega
  subst him;unfold wpOp;simp only [List.getElem?_toArray,ho];rw [List.drop_eq_getElem_cons hml] at h;simp only [wpList] at h
  have next:∀ a' W',wpList P l0.toArray Q (l0.drop (i+1)) a' W'→wpAny P .any l0.toArray Q fuel (listed.setIfInBounds i true) a' W':=by
   intro a' W' h';refine ih (i+1) _ a' W' fuel (by omega) (by omega) (by omega) (by simpa using hsz) (fun j hj=>getD_set_true (hpre j hj)) ?_ ?_ hed h'
   ·intro j o hj hoj e he hb
    by_cases hij:i=j
    ·subst hij
     rw [ho] at hoj;cases hoj;exact getD_set_true ((hlst e.on (by have:=hed i _ ho e he hb;omega)).2 (hed i _ ho e he hb))
    ·rw [getD_set_ne false hij] at hj
     exact getD_set_true (hcl j o hj hoj e he hb)
   ·intro j hj
    by_cases hij:i=j
    ·subst hij
     simp [show i<listed.size by omega]
    ·rw [getD_set_ne false hij,hlst j hj]
     omega
  split
  ·rename_i hw
   rw [if_pos hw] at h;exact h.imp (Oper.wp_mono next) id
  ·rename_i hw
   rw [if_neg hw] at h;exact next _ _ h
structure OkSpecX (pre:List Nat) (l:List Oper) (n size:Nat):Prop where
 sel:∀ (j:Nat) (o:Oper) cs b,l[j]? = some o→o.op≠.select cs b
 len:n≤l.length
 dst:∀ (j:Nat) (o:Oper) (d:Tmp),l[j]? = some o→o.dst=some d→d<size
 edge:∀ (i:Nat) (o:Oper),l[i]? = some o→∀ e∈o.after,Region.binds .any e=true→e.on<i
 look:∀ (i:Nat) (o:Oper) (j:Nat) (oj:Oper) (d:Tmp),i<n→l[i]? = some o→l[j]? = some oj→oj.dst=some d→d∈o.looksAt l.toArray→(j<i∧Ds o j=true)∨n≤j
 one:∀ (i:Nat) (o:Oper) (j:Nat) (oj:Oper) (d:Tmp),i<n→l[i]? = some o→l[j]? = some oj→oj.dst=some d→i≠j→o.dst≠some d
 tail:∀ (i:Nat) (o:Oper),n≤i→l[i]? = some o→∀ j,j<i→j∈pre∨ancB l 16 o j=true
theorem Pi {n size:Nat}{l:List Oper}(h:Jc pre n size l=true):OkSpecX pre l n size:=by
 simp only [Jc,Bool.and_eq_true,decide_eq_true_eq,List.all_eq_true,List.mem_range] at h;obtain ⟨⟨⟨h1,h2⟩,h3⟩,h4⟩:=h
 have at_:∀ i o,l[i]? = some o→Hs pre l n i o=true:=by
  intro i o ho;have:=h4 i (List.getElem?_eq_some_iff.1 ho).1
  rwa [ho] at this
 refine ⟨fun j o cs b hj=>Region.noSelect_spec h1 j o cs b (by simpa using hj),h2,?_,?_,?_,?_,?_⟩
 ·intro j o d ho hd
  have:=h3 o (List.mem_of_getElem? ho);simpa [hd] using this
 ·intro i o ho e he hb
  have:=at_ i o ho;simp only [Hs,Bool.and_eq_true,List.all_eq_true,Bool.or_eq_true,Bool.not_eq_true',decide_eq_true_eq] at this;have:=this.1 e (Array.mem_toList_iff.2 he);rcases this with h|h
  ·rw [h] at hb;cases hb
  ·exact h
 ·intro i o j oj d hi ho hj hd hm
  have:=at_ i o ho;simp only [Hs,Bool.and_eq_true,if_pos hi,List.all_eq_true,List.mem_range] at this;have:=this.2 j (List.getElem?_eq_some_iff.1 hj).1;simp only [hj,hd,Bool.and_eq_true,Bool.or_eq_true,Bool.not_eq_true',decide_eq_true_eq] at this;rcases this.1 with (h|h)|h
  ·have:=List.contains_iff_mem.2 hm
   rw [h] at this;cases this
  ·exact .inl h
  ·exact .inr h
 ·intro i o j oj d hi ho hj hd hne
  have:=at_ i o ho;simp only [Hs,Bool.and_eq_true,if_pos hi,List.all_eq_true,List.mem_range] at this;have:=this.2 j (List.getElem?_eq_some_iff.1 hj).1;simp only [hj,hd,Bool.and_eq_true,Bool.or_eq_true,beq_iff_eq,bne_iff_ne,ne_eq] at this;rcases this.2 with h|h
  ·exact absurd h.symm hne
  ·exact h
 ·intro i o hi ho j hj
  have:=at_ i o ho;simp only [Hs,Bool.and_eq_true,if_neg (Nat.not_lt.2 hi),List.all_eq_true,List.mem_range] at this;have:=this.2 j hj;rw [Bool.or_eq_true] at this;exact this.imp (fun h=>List.contains_iff_mem.1 h) id
def VoidAll:List Oper→List FSpec→Prop
 | o::l,s::ss=>(o.dst=none→∀ W v,s.ok W v→s.ok W undef)∧VoidAll l ss
 | _,_=>True
theorem VoidAll.at_:∀ {l:List Oper} {ss:List FSpec} {j:Nat} {o:Oper} {s:FSpec},VoidAll l ss→l[j]? = some o→ss[j]? = some s→o.dst=none→∀ W v,s.ok W v→s.ok W undef
 | _::_,_::_,0,_,_,h,h1,h2=>by
  simp at h1 h2
  subst h1 h2
  exact h.1
 | _::_,_::_,j+1,_,_,h,h1,h2=>VoidAll.at_ (j:=j) h.2 (by simpa using h1) (by simpa using h2)
 | [],_,_,_,_,_,h1,_=>by simp at h1
 | _::_,[],_,_,_,_,_,h2=>by simp at h2
structure MidwayO (l:List Oper) (specs:List FSpec) (K:Nat) (A B:World→Prop) (a0:Act) (listed:Array Bool) (a:Act) (W:World):Prop where
 size:listed.size=l.length
 inv:(listed.getD K false=false→A W)∧(listed.getD K false=true→B W)
 defers:a.defers=a0.defers
 tsize:a.tmps.size=a0.tmps.size
 closed:∀ (i:Nat) (o:Oper),listed.getD i false=true→l[i]? = some o→∀ e∈o.after,Region.binds .any e=true→listed.getD e.on false=true
 other:∀ (t:Tmp),(∀ (j:Nat) (o:Oper),l[j]? = some o→listed.getD j false=true→o.dst≠some t)→a.tmps[t]? = a0.tmps[t]?
 fact:∀ (j:Nat) (o:Oper) (d:Tmp) (s:FSpec),listed.getD j false=true→l[j]? = some o→o.dst=some d→specs[j]? = some s→s.ok W (a.tmps.getD d undef)
 late:∀ (j:Nat),specs.length≤j→listed.getD j false=false
 void:∀ (j:Nat) (o:Oper) (s:FSpec),listed.getD j false=true→l[j]? = some o→o.dst=none→specs[j]? = some s→s.ok W undef
 apart:∀ (i j:Nat) (oi oj:Oper) (di dj:Tmp) (si sj:FSpec),i≠j→listed.getD i false=true→listed.getD j false=true→l[i]? = some oi→l[j]? = some oj→oi.dst=some di→oj.dst=some dj →
  specs[i]? = some si→specs[j]? = some sj→si.isFresh=true→sj.isFresh=true→∀ g∈blks (a.tmps.getD di undef),g∉blks (a.tmps.getD dj undef)
def Ay (l:List Oper)(specs:List FSpec)(a:Act)(j:Nat):Value:=
 match specs[j]? with
 | some (.val c)=>c
 | _=>match (l[j]?).bind (·.dst) with
  | some d=>a.tmps.getD d undef
  | none=>undef
theorem Hy (l:List Oper)(specs:List FSpec)(a:Act):fits specs (Ay l specs a):=by
 intro k c h;simp [Ay,h]
theorem MidwayO.value {specs:List FSpec}{a0 a:Act}{listed:Array Bool}{W:World}(m:MidwayO l0 specs K A B a0 listed a W){j:Nat}{o:Oper}{d:Tmp}(hj:listed.getD j false=true)(ho:l0[j]? = some o)(hd:o.dst=some d) :
  a.tmps.getD d undef=Ay l0 specs a j:=by
 have hlt:j<specs.length:=by
  rcases Nat.lt_or_ge j specs.length with h|h
  ·exact h
  ·rw [m.late j h] at hj;cases hj
 have hs:specs[j]? = some specs[j]:=List.getElem?_eq_getElem hlt;have:=m.fact j o d _ hj ho hd hs;generalize specs[j]=s at this hs;cases s with
 | val c=>simp only [FSpec.ok] at this;simp [Ay,hs,this]
 | pred Φ=>simp [Ay,hs,ho,hd]
 | fresh Φ=>simp [Ay,hs,ho,hd]
theorem Pw {a b:Act}(o:Oper)(hs:∀ cs b,o.op≠.select cs b)(h:∀ t,t∈o.looksAt l0.toArray→a.tmps[t]? = b.tmps[t]?):execOp a.eval o=execOp b.eval o:=by
 refine execOp_congr o hs fun x hx=>?_;cases x with
 | tmp t=>
  have:=h t (List.mem_append_left _ (List.mem_filterMap.2 ⟨.tmp t,by simpa using hx,rfl⟩));simp [Act.eval,this]
 | _=>rfl
theorem Lj {a b:Act}(o:Oper)(h:∀ t,t∈o.looksAt l0.toArray→a.tmps[t]? = b.tmps[t]?):Region.wanted o (yielded l0.toArray a.tmps)=Region.wanted o (yielded l0.toArray b.tmps):=by
 unfold Region.wanted;cases hg:o.guard with
 | none=>rfl
 | some gw=>
  obtain ⟨g,want⟩:=gw
  have hy:yielded l0.toArray a.tmps g=yielded l0.toArray b.tmps g:=by
   unfold yielded;cases ht:(l0.toArray[g]?).bind (·.dst) with
   | none=>rfl
   | some t=>
    have:=h t (List.mem_append_right _ (by simp only [hg,ht];simp));simp [this]
  simp only [hy]
theorem MidwayO.tmpS {specs:List FSpec}{a0 a:Act}{listed:Array Bool}{W:World}(m:MidwayO l0 specs K A B a0 listed a W)(ok:OkSpecX pre l0 specs.length a0.tmps.size)(k t:Nat)(hk:k≤specs.length)
  (h:∀ (j:Nat) (oj:Oper),l0[j]? = some oj→oj.dst=some t→(j<k∧listed.getD j false=true)∨specs.length≤j):(Br a0 l0 (Ay l0 specs a) k).tmps[t]? = a.tmps[t]?:=by
 by_cases hex:∃ (j:Nat) (oj:Oper),l0[j]? = some oj∧oj.dst=some t
 ·obtain ⟨j,oj,hj,hd⟩:=hex
  rcases h j oj hj hd with ⟨hjk,hlj⟩|hge
  case inr=>
   have hfr:∀ (i:Nat) (oi:Oper),i<specs.length→l0[i]? = some oi→oi.dst≠some t:=fun i oi hi hoi=>ok.one i oi j oj t hi hoi hj hd (by omega);rw [Gb a0 l0 _ k t fun i oi hi hoi=>hfr i oi (by omega) hoi];refine (m.other t fun i oi hoi hl=>?_).symm;rcases Nat.lt_or_ge i specs.length with hi|hi
   ·exact hfr i oi hi hoi
   ·rw [m.late i hi] at hl;cases hl
  have ht:=ok.dst j oj t hj hd
  rw [Se a0 l0 _ k t j oj hjk hj hd ht fun i o' hne ho' hd'=>by
   rcases Nat.lt_or_ge i specs.length with hi|hi
   ·exact ok.one i o' j oj t hi ho' hj hd hne hd'
   ·exact ok.one j oj i o' t (by omega) hj ho' hd' (Ne.symm hne) hd]
  rw [←m.value hlj hj hd];have:t<a.tmps.size:=by rw [m.tsize];exact ht
  simp [this]
 ·rw [Gb a0 l0 _ k t fun j o _ ho hd=>hex ⟨j,o,ho,hd⟩,m.other t fun j o ho _ hd=>hex ⟨j,o,ho,hd⟩]
theorem MidwayO.next {specs:List FSpec}{a0 a:Act}{listed:Array Bool}{W:World}(m:MidwayO l0 specs K A B a0 listed a W)(ok:OkSpecX pre l0 specs.length a0.tmps.size)(hvo:VoidAll l0 specs){i:Nat}{o:Oper}(hi:i<specs.length)(ho:l0[i]? = some o)(hedge:∀ e∈o.after,Region.binds .any e=true→listed.getD e.on false=true) :
  ∀ W' v,(∀ j oj s,listed.getD j false=true→l0[j]? = some oj→specs[j]? = some s→∀ v,s.ok W v→s.ok W' v)→(((listed.setIfInBounds i true).getD K false=false→A W')∧((listed.setIfInBounds i true).getD K false=true→B W'))→specs[i].ok W' v→(specs[i].isFresh=true→∀ g∈blks v,W.heap.size≤g)→MidwayO l0 specs K A B a0 (listed.setIfInBounds i true) (a.put o.dst v) W':=by
 have hil:i<l0.length:=(List.getElem?_eq_some_iff.1 ho).1;have hlt:i<listed.size:=by rw [m.size];exact hil
 have hs:specs[i]? = some specs[i]:=List.getElem?_eq_getElem hi;intro W' v hR hI hv hfr
 -- what an elder operation's place holds,and the new one's
 have keep:∀ (j:Nat) (oj:Oper) (d:Tmp),i≠j→l0[j]? = some oj→oj.dst=some d→(a.put o.dst v).tmps.getD d undef=a.tmps.getD d undef:=by
  intro j oj d hij hoj hdj;have hnd:o.dst≠some d:=ok.one i o j oj d hi ho hoj hdj hij;cases hd:o.dst with
  | none=>simp [Act.put]
  | some e=>
   have:e≠d:=fun e'=>hnd (by rw [hd,e']);simp [Act.put,Array.getElem?_setIfInBounds_ne this]
 have own:∀ (d:Tmp),o.dst=some d→(a.put o.dst v).tmps.getD d undef=v:=by
  intro d hd;have hsz:d<a.tmps.size:=by rw [m.tsize];exact ok.dst i _ d ho hd
  simp [Act.put,hd,hsz]
 have elder:∀ (j:Nat) (oj:Oper) (d:Tmp) (sj:FSpec),listed.getD j false=true→l0[j]? = some oj→oj.dst=some d→specs[j]? = some sj→sj.isFresh=true→∀ g∈blks (a.tmps.getD d undef),g<W.heap.size:=by
  intro j oj d sj hj hoj hdj hsj hfj;have hf:=m.fact j oj d sj hj hoj hdj hsj;cases sj with
  | fresh Φ=>exact hf.2
  | val c=>cases hfj
  | pred Φ=>cases hfj
 refine ⟨by simpa using m.size,hI,?_,?_,?_,?_,?_,?_,?_,?_⟩
 ·rw [←m.defers];cases o.dst<;>rfl
 ·rw [←m.tsize];cases hd:o.dst<;>simp [Act.put]
 ·intro j oj hj hoj e he hb
  by_cases hij:i=j
  ·subst hij
   rw [ho] at hoj;cases hoj;exact getD_set_true (hedge e he hb)
  ·rw [getD_set_ne false hij] at hj
   exact getD_set_true (m.closed j oj hj hoj e he hb)
 ·intro t ht
  have hne:o.dst≠some t:=ht i o ho (by simp [hlt])
  rw [←m.other t fun j oj hoj hj=>ht j oj hoj (by
   by_cases hij:i=j
   ·subst hij;simp [hlt]
   ·rw [getD_set_ne false hij];exact hj)]
  cases hd:o.dst with
  | none=>rfl
  | some d=>
   have:d≠t:=fun e=>hne (by rw [hd,e]);simp [Act.put,Array.getElem?_setIfInBounds_ne this]
 ·intro j oj d s hj hoj hdj hsj
  by_cases hij:i=j
  ·subst hij
   rw [ho] at hoj;cases hoj;rw [hs] at hsj;cases hsj;have hsz:d<a.tmps.size:=by rw [m.tsize];exact ok.dst i _ d ho hdj
   simpa [Act.put,hdj,hsz] using hv
  ·rw [getD_set_ne false hij] at hj
   have hf:=m.fact j oj d s hj hoj hdj hsj;have hf:=hR j oj s hj hoj hsj _ hf;have hnd:o.dst≠some d:=ok.one i o j oj d hi ho hoj hdj hij;cases hd:o.dst with
   | none=>simpa [Act.put] using hf
   | some e=>
    have:e≠d:=fun e'=>hnd (by rw [hd,e']);simpa [Act.put,Array.getElem?_setIfInBounds_ne this] using hf
 ·intro j hj
  rw [getD_set_ne false (show i≠j by omega)];exact m.late j hj
 ·intro j oj s hj hoj hdj hsj
  by_cases hij:i=j
  ·subst hij
   rw [ho] at hoj;cases hoj;rw [hs] at hsj;cases hsj;exact hvo.at_ ho hs hdj _ _ hv
  ·rw [getD_set_ne false hij] at hj
   exact hR j oj s hj hoj hsj _ (m.void j oj s hj hoj hdj hsj)
 ·intro i1 j1 oi oj di dj si sj hne hl1 hl2 ho1 ho2 hd1 hd2 hs1 hs2 hf1 hf2
  by_cases e1:i=i1
  ·subst e1
   have hij:i≠j1:=hne;rw [ho] at ho1;cases ho1;rw [hs] at hs1;cases hs1;rw [getD_set_ne false hij] at hl2;rw [own di hd1,keep j1 oj dj hij ho2 hd2];intro g hg1 hg2;have h1:=hfr hf1 g hg1;have h2:=elder j1 oj dj sj hl2 ho2 hd2 hs2 hf2 g hg2;omega
  ·rw [getD_set_ne false e1] at hl1
   by_cases e2:i=j1
   ·subst e2
    rw [ho] at ho2;cases ho2;rw [hs] at hs2;cases hs2;rw [own dj hd2,keep i1 oi di e1 ho1 hd1];intro g hg1 hg2;have h1:=hfr hf2 g hg2;have h2:=elder i1 oi di si hl1 ho1 hd1 hs1 hf1 g hg1;omega
   ·rw [getD_set_ne false e2] at hl2
    rw [keep i1 oi di e1 ho1 hd1,keep j1 oj dj e2 ho2 hd2];exact m.apart i1 j1 oi oj di dj si sj hne hl1 hl2 ho1 ho2 hd1 hd2 hs1 hs2 hf1 hf2
theorem MidwayO.stepS {specs:List FSpec}{a0 a:Act}{listed:Array Bool}{W:World}(m:MidwayO l0 specs K A B a0 listed a W)(ok:OkSpecX pre l0 specs.length a0.tmps.size)(hA:∀ W W',R W W'→A W→A W')(hB:∀ W W',R W W'→B W→B W')
  (hst:∀ s∈specs,∀ W W' v,R W W'→s.ok W v→s.ok W' v) (hsT:∀ j oj s,l0[j]? = some oj→specs[j]? = some s→j≠K→ancB l0 16 oj K=false→∀ W W' v,T W W'→s.ok W v→s.ok W' v) (hvo:VoidAll l0 specs) (h:Bk P l0 R T A B K Q 0 specs l0 a0 []) {i:Nat} (hi:i<specs.length) (hr:i∈Region.ready .any l0.toArray listed) :
  wpOp P l0.toArray Q i (fun a' W'=>MidwayO l0 specs K A B a0 (listed.setIfInBounds i true) a' W') a W:=by
 obtain ⟨hun,o,ho',hedge⟩:=mem_ready.1 hr;have ho:l0[i]? = some o:=by simpa using ho'
 have hil:i<l0.length:=(List.getElem?_eq_some_iff.1 ho).1;have hlt:i<listed.size:=by rw [m.size];exact hil
 have hat:=Nh h (Ay l0 specs a) (Hy l0 specs a) i (by omega);rw [List.drop_eq_getElem_cons hi,List.drop_eq_getElem_cons hil] at hat;have hs:specs[i]? = some specs[i]:=List.getElem?_eq_getElem hi
 have hoi:l0[i]=o:=by
  have:=List.getElem?_eq_getElem hil;rw [ho] at this;exact (Option.some.inj this).symm
 rw [hoi] at hat
 have hfacts:∀ p∈Cp specs (Ay l0 specs a) i,leans l0 o p.1=true→p.2.1.ok W p.2.2:=by
  intro p hp hl;obtain ⟨h1,h2,h3⟩:=Fu hp;unfold leans at hl;split at hl
  ·rename_i d hd
   obtain ⟨oj,hj,hdj⟩:=Option.bind_eq_some_iff.1 hd;have hlook:=(ok.look i o p.1 oj d hi ho hj hdj (List.contains_iff_mem.1 hl)).resolve_right (by omega);have hlj:listed.getD p.1 false=true:=Eg (l0:=l0) m.closed 0 o p.1 hedge hlook.2;have:=m.fact p.1 oj d p.2.1 hlj hj hdj h2;rw [h3,←m.value hlj hj hdj];exact this
  ·cases hl
 have hsame:∀ t,t∈o.looksAt l0.toArray→(Br a0 l0 (Ay l0 specs a) i).tmps[t]? = a.tmps[t]?:=by
  intro t ht;refine m.tmpS ok i t (by omega) fun j oj hj hdj=>?_;rcases ok.look i o j oj t hi ho hj hdj ht with hlook|hlook
  ·exact .inl ⟨hlook.1,Eg (l0:=l0) m.closed 0 o j hedge hlook.2⟩
  ·exact .inr hlook
 have hev:execOp (Br a0 l0 (Ay l0 specs a) i).eval o=execOp a.eval o:=Pw o (fun cs b=>ok.sel i o cs b ho) hsame;have hwa:Region.wanted o (yielded l0.toArray (Br a0 l0 (Ay l0 specs a) i).tmps)=Region.wanted o (yielded l0.toArray a.tmps):=Lj o hsame;have next:=m.next ok hvo hi ho hedge;unfold wpOp;simp only [List.getElem?_toArray,ho]
 have hat1:Ib P l0 R T A B K i specs[i] o (Br a0 l0 (Ay l0 specs a) i) (Cp specs (Ay l0 specs a) i):=by
  generalize specs[i]=s at hat;cases s with
  | val c=>
   simp only [Bk] at hat;exact hat.1
  | pred Φ=>
   simp only [Bk] at hat;exact hat.1
  | fresh Φ=>
   simp only [Bk] at hat;exact hat.1
 unfold Ib at hat1
 have hrun:listed.getD i false=false:=by
  rcases Df (listed:=listed) (i:=i) hlt with h1|h1
  ·rw [Array.getD_eq_getD_getElem?] at hun h1
   rw [Array.getElem?_eq_getElem hlt] at hun h1;simp at hun h1;rw [h1] at hun;cases hun
  ·rw [Array.getD_eq_getD_getElem?] at h1 ⊢
   rw [Array.getElem?_eq_getElem hlt] at h1 ⊢;simpa using h1
 by_cases hiK:i=K
 ·rw [if_pos hiK] at hat1
  have hone:=hat1 W (m.inv.1 (by rw [←hiK];exact hrun)) (Ev hfacts);rw [hwa,hev] at hone;split
  ·rename_i hw
   rw [if_pos hw] at hone
   refine .inl (Ia hone fun w' v hv=>next _ _ (fun j oj s hlj hoj hsj v=>hsT j oj s hoj hsj (fun e=>by rw [e,←hiK,hrun] at hlj;cases hlj) (by
    cases hx:ancB l0 16 oj K with
    | false=>rfl
    | true=>
     have hy:=Eg (l0:=l0) m.closed 16 oj K (m.closed j oj hlj hoj) hx;rw [←hiK,hrun] at hy
     cases hy) _ _ _ hv.1) ⟨fun h=>?_,fun _=>hv.2.1⟩ hv.2.2.ok hv.2.2.new)
   rw [←hiK] at h;rw [Array.getD_eq_getD_getElem?,Array.getElem?_setIfInBounds_self_of_lt hlt] at h;cases h
  ·rename_i hw
   rw [if_neg hw] at hone;exact hone.elim
 ·rw [if_neg hiK] at hat1
  have hAB:A W∨B W:=by
   cases hl:listed.getD K false with
   | false=>exact .inl (m.inv.1 hl)
   | true=>exact .inr (m.inv.2 hl)
  have hone:=hat1 W hAB (Ev hfacts);rw [hwa,hev] at hone;have hgetK:(listed.setIfInBounds i true).getD K false=listed.getD K false:=getD_set_ne false hiK;split
  ·rename_i hw
   rw [if_pos hw] at hone;refine .inl (Ia hone fun w' v hv=>next _ _ (fun j oj s _ _ hsj v=>hst s (List.mem_of_getElem? hsj) _ _ _ hv.1) ⟨fun h=>?_,fun h=>?_⟩ hv.2.ok hv.2.new)
   ·exact hA _ _ hv.1 (m.inv.1 (by rw [←hgetK];exact h))
   ·exact hB _ _ hv.1 (m.inv.2 (by rw [←hgetK];exact h))
  ·rename_i hw
   rw [if_neg hw] at hone;exact next W undef (fun _ _ _ _ _ _ _ h=>h) ⟨fun h=>m.inv.1 (by rw [←hgetK];exact h),fun h=>m.inv.2 (by rw [←hgetK];exact h)⟩ hone (fun _ g hg=>by cases hg)
theorem MidwayO.doneS {specs:List FSpec}{a0 a:Act}{listed:Array Bool}{W:World}(m:MidwayO l0 specs K A B a0 listed a W)(ok:OkSpecX pre l0 specs.length a0.tmps.size)(hall:∀ j,j<specs.length→listed.getD j false=true) :
  a=Br a0 l0 (Ay l0 specs a) specs.length∧∀ p∈Cp specs (Ay l0 specs a) specs.length,p.2.1.ok W p.2.2:=by
 refine ⟨?_,fun p hp=>?_⟩
 ·obtain ⟨tm,df⟩:=a
  have hdf:=Mk a0 l0 (Ay l0 specs ⟨tm,df⟩) specs.length
  have htm:tm=(Br a0 l0 (Ay l0 specs ⟨tm,df⟩) specs.length).tmps:=by
   refine Array.ext_getElem? fun t=>?_;by_cases hex:∃ (j:Nat) (oj:Oper),l0[j]? = some oj∧oj.dst=some t∧specs.length≤j
   ·obtain ⟨j,oj,hj,hd,hge⟩:=hex
    by_cases hin:∃ (i:Nat) (oi:Oper),l0[i]? = some oi∧oi.dst=some t∧i<specs.length
    ·obtain ⟨i,oi,hi,hdi,hlt⟩:=hin
     exact absurd hdi (ok.one i oi j oj t hlt hi hj hd (by omega))
    ·rw [Gb a0 l0 _ _ t fun i o hi ho hd'=>hin ⟨i,o,ho,hd',hi⟩]
     refine m.other t fun i o ho hl hd'=>?_;rcases Nat.lt_or_ge i specs.length with h|h
     ·exact hin ⟨i,o,ho,hd',h⟩
     ·rw [m.late i h] at hl;cases hl
   ·refine (m.tmpS ok specs.length t (nR _) fun j oj hj hd=>?_).symm
    have hlt:j<specs.length:=by
     rcases Nat.lt_or_ge j specs.length with h|h
     ·exact h
     ·exact absurd ⟨j,oj,hj,hd,h⟩ hex
    exact .inl ⟨hlt,hall j hlt⟩
  have h1:(Br a0 l0 (Ay l0 specs ⟨tm,df⟩) specs.length).defers=df:=by rw [hdf,←m.defers]
  generalize Br a0 l0 (Ay l0 specs ⟨tm,df⟩) specs.length=f at htm h1;obtain ⟨ft,fd⟩:=f;simp only at htm h1;rw [htm,h1]
 ·obtain ⟨h1,h2,h3⟩:=Fu hp
  have hil:p.1<l0.length:=by have:=ok.len;omega
  have ho:l0[p.1]? = some l0[p.1]:=List.getElem?_eq_getElem hil;rw [h3];cases hd:l0[p.1].dst with
  | some d=>
   rw [←m.value (hall p.1 h1) ho hd];exact m.fact p.1 _ d _ (hall p.1 h1) ho hd h2
  | none=>
   have hv:=m.void p.1 _ _ (hall p.1 h1) ho hd h2
   have he:Ay l0 specs a p.1=undef∨∃ c,p.2.1=.val c:=by
    cases hq:p.2.1 with
    | val c=>exact .inr ⟨c,rfl⟩
    | pred Φ=>exact .inl (by simp [Ay,h2,hq,ho,hd])
    | fresh Φ=>exact .inl (by simp [Ay,h2,hq,ho,hd])
   rcases he with he|⟨c,he⟩
   ·rw [he];exact hv
   ·rw [he] at h2
    have hc:Ay l0 specs a p.1=c:=by simp [Ay,h2]
    rw [hc,he];rfl
theorem Zb {md:Region.Mode}{ops:Array Oper}{listed:Array Bool}{i:Nat}(f:Nat→Bool)(hl:∀ j,f j=true→listed.getD j true=true)(h:Region.free md ops (((List.range ops.size).map f).toArray) i=true):Region.free md ops listed i=true:=by
 unfold Region.free at *;split at h
 ·cases h
 ·rw [List.all_eq_true] at *
  intro j hj;have:=h j hj;have hjl:j<ops.size:=List.mem_range.1 hj;have e:(((List.range ops.size).map f).toArray).getD j true=f j:=by simp [hjl]
  rw [e] at this;cases h2:listed.getD j true with
  | true=>simp
  | false=>
   have h3:f j=false:=by
    cases h4:f j with
    | false=>rfl
    | true=>rw [hl j h4] at h2;cases h2
   rw [h3] at this;exact this
theorem Zc {specs:List FSpec}{a0:Act}(hK:K<specs.length∨∀ W,A W→B W)
  (hp:∀ k∈pre,k<specs.length∧k≠K∧∃ ok' d v,l0[k]? = some ok'∧ok'.dst=some d∧specs[k]? = some (.val v)∧Region.noSelect l0.toArray=true∧Region.free .any l0.toArray (((List.range l0.toArray.size).map fun j=>Ds ok' j).toArray) k=true∧(∀ c a w,Q (.panic c) (a.put ok'.dst v) w→Q (.panic c) a w) ∧
   ∀ (a:Act) (W:World),A W∨B W→(∀ j s oj dj,specs[j]? = some s→l0[j]? = some oj→oj.dst=some dj→Ds ok' j=true→s.ok W (a.tmps.getD dj undef))→Yields P l0.toArray ok' v a) (ok:OkSpecX pre l0 specs.length a0.tmps.size) (hA:∀ W W',R W W'→A W→A W') (hB:∀ W W',R W W'→B W→B W')
  (hst:∀ s∈specs,∀ W W' v,R W W'→s.ok W v→s.ok W' v) (hsT:∀ j oj s,l0[j]? = some oj→specs[j]? = some s→j≠K→ancB l0 16 oj K=false→∀ W W' v,T W W'→s.ok W v→s.ok W' v) (hvo:VoidAll l0 specs) (h:Bk P l0 R T A B K Q 0 specs l0 a0 []) :
  ∀ (fuel:Nat) (listed:Array Bool) (a:Act) (W:World),left l0 listed≤fuel→MidwayO l0 specs K A B a0 listed a W→wpAny P .any l0.toArray Q fuel listed a W:=by
 have fin:∀ (listed:Array Bool) (a:Act) (W:World),MidwayO l0 specs K A B a0 listed a W→(∀ j,j<specs.length→listed.getD j false=true)→wpList P l0.toArray Q (l0.drop specs.length) a W:=by
  intro listed a W m hall;obtain ⟨he,hf⟩:=m.doneS ok hall;have hat:=Nh h (Ay l0 specs a) (Hy l0 specs a) specs.length (nR _);rw [List.drop_length] at hat;simp only [Bk] at hat
  have hBW:B W:=by
   rcases hK with hK|hK
   ·exact m.inv.2 (hall K hK)
   ·cases hl:listed.getD K false with
    | true=>exact m.inv.2 hl
    | false=>exact hK W (m.inv.1 hl)
  have hap:Mr (Cp specs (Ay l0 specs a) specs.length):=fun p q hp hq h1 h2 hne=>by
   obtain ⟨a1,a2,a3⟩:=Fu hp;obtain ⟨b1,b2,b3⟩:=Fu hq;have hlen:=ok.len;have ho1:l0[p.1]? = some l0[p.1]:=List.getElem?_eq_getElem (by omega);have ho2:l0[q.1]? = some l0[q.1]:=List.getElem?_eq_getElem (by omega)
   have none_:∀ (r:Nat×FSpec×Value),specs[r.1]? = some r.2.1→r.2.1.isFresh=true→(l0[r.1]?).bind (·.dst)=none→Ay l0 specs a r.1=undef:=fun r hr hf hn=>by
    unfold Ay;rw [hr,hn];cases h:r.2.1 with
    | val c=>rw [h] at hf;cases hf
    | pred _=>rfl
    | fresh _=>rfl
   cases hd1:l0[p.1].dst with
   | none=>
    rw [a3,none_ p a2 h1 (by rw [ho1];exact hd1)];exact fun g hg=>by cases hg
   | some d1=>
    cases hd2:l0[q.1].dst with
    | none=>
     rw [b3,none_ q b2 h2 (by rw [ho2];exact hd2)];exact fun g _ hg=>by cases hg
    | some d2=>
     rw [a3,b3,←m.value (hall p.1 a1) ho1 hd1,←m.value (hall q.1 b1) ho2 hd2];exact m.apart p.1 q.1 _ _ d1 d2 _ _ hne (hall p.1 a1) (hall q.1 b1) ho1 ho2 hd1 hd2 a2 b2 h1 h2
  have:=hat W hBW (Ev fun p hp _=>hf p hp) hap
  rwa [←he] at this
 have hlst:∀ (listed:Array Bool) (a:Act) (W:World),MidwayO l0 specs K A B a0 listed a W→(∀ j,j<specs.length→listed.getD j false=true)→∀ i,i<l0.length→(listed.getD i false=true↔i<specs.length):=by
  intro listed a W m hall i hi;constructor
  ·intro hl
   rcases Nat.lt_or_ge i specs.length with h|h
   ·exact h
   ·rw [m.late i h] at hl;cases hl
  ·exact hall i
 have hpre:∀ (listed:Array Bool),(∀ j,j<specs.length→listed.getD j false=true)→∀ j∈pre,listed.getD j false=true:=fun listed hall j hj=>hall j (hp j hj).1;intro fuel
 induction fuel with
 | zero=>
  intro listed a W hl m
  have hnone:∀ i,i<l0.length→listed.getD i true=true:=by
   intro i hi;have h0:((List.range l0.length).filter fun i=>!listed.getD i true)=[]:=List.eq_nil_of_length_eq_zero (by unfold left at hl;omega);have:=List.filter_eq_nil_iff.1 h0 i (List.mem_range.2 hi);simpa using this
  have hall:∀ j,j<specs.length→listed.getD j false=true:=by
   intro j hj;have h1:=hnone j (by have:=ok.len;omega);rcases Df (listed:=listed) (i:=j) (by rw [m.size];have:=ok.len;omega) with h2|h2
   ·exact h2
   ·rw [h2] at h1;cases h1
  have hn:specs.length=l0.length:=by
   rcases Nat.lt_or_ge specs.length l0.length with h1|h1
   ·have h2:=hnone specs.length h1
    have h3:=m.late specs.length (nR _);rcases Df (listed:=listed) (i:=specs.length) (by rw [m.size];exact h1) with h4|h4
    ·rw [h4] at h3;cases h3
    ·rw [h4] at h2;cases h2
   ·have:=ok.len;omega
  exact Kn ok.tail 0 specs.length listed a W 0 (nR _) hn (nR _) m.size (hpre _ hall) m.closed (hlst _ _ _ m hall) ok.edge (fin _ _ _ m hall)
 | succ fuel ih=>
  intro listed a W hl m;by_cases hall:∀ j,j<specs.length→listed.getD j false=true
  ·refine Kn ok.tail (l0.length-specs.length) specs.length listed a W (fuel+1) (nR _) (by have:=ok.len;omega) ?_ m.size (hpre _ hall) m.closed (hlst _ _ _ m hall) ok.edge (fin _ _ _ m hall)
   have:=Adz (l:=l0) (listed:=listed) (n:=specs.length) fun i h1 h2=>by
    have:=m.late i h1;have hlt:i<listed.size:=by rw [m.size];exact h2
    simpa [hlt] using this
   omega
  ·by_cases hrk:∃ k∈pre,k∈Region.ready .any l0.toArray listed
   ·obtain ⟨k,hkp,hrk⟩:=hrk
    obtain ⟨hkn,hkK,ok',d,v,hk,_,hks,hns,hf,hQ,hy⟩:=hp k hkp;obtain ⟨hun,o,ho',hedge⟩:=mem_ready.1 hrk;have ho:l0[k]? = some o:=by simpa using ho'
    rw [hk] at ho;cases ho
    have hed:∀ j,Ds ok' j=true→listed.getD j false=true:=fun j he=>by
     obtain ⟨e,he1,he2⟩:=List.any_eq_true.1 he;simp only [Bool.and_eq_true,beq_iff_eq] at he2;have:=hedge e (Array.mem_toList_iff.1 he1) he2.1
     rwa [he2.2] at this
    have hle:∀ j,Ds ok' j=true→listed.getD j true=true:=fun j he=>by
     have h1:=hed j he;rcases Nat.lt_or_ge j listed.size with h2|h2
     ·simpa [h2] using h1
     ·simp [h2]
    have hyy:Yields P l0.toArray ok' v a:=hy a W (by cases hl:listed.getD K false with|false=>exact .inl (m.inv.1 hl)|true=>exact .inr (m.inv.2 hl)) fun j s oj dj hs hj hd he=>m.fact j oj dj s (hed j he) hj hd hs;refine wpAny_take (i:=k) (by simpa using hk) hns (Zb _ hle hf) (List.contains_iff_mem.2 hrk) hQ hyy ?_;have hil:k<l0.length:=(List.getElem?_eq_some_iff.1 hk).1
    have hsk:specs[k]=.val v:=by
     have:=List.getElem?_eq_getElem hkn;rw [hks] at this;exact (Option.some.inj this).symm
    exact ih _ _ W (by have:=Rw hil hun;omega) (m.next ok hvo hkn hk hedge W v (fun _ _ _ _ _ _ _ h=>h) (by rw [show (listed.setIfInBounds k true).getD K false=listed.getD K false from getD_set_ne false hkK];exact m.inv) (by rw [hsk];rfl) (by rw [hsk];intro e;cases e))
   have hkl:∀ i o,specs.length≤i→l0[i]? = some o→(∀ e∈o.after,Region.binds .any e=true→listed.getD e.on false=true)→∀ j∈pre,listed.getD j false=true:=by
    intro i o hi ho hedge;refine fun j=>Nat.strongRecOn j fun j ihj hj=>?_;obtain ⟨_,_,ok',_,_,hk,_⟩:=hp j hj;have hil:j<l0.length:=(List.getElem?_eq_some_iff.1 hk).1;rcases Df (listed:=listed) (i:=j) (by rw [m.size];exact hil) with h1|h1
    ·exact h1
    ·refine absurd ⟨j,hj,mem_ready.2 ⟨h1,ok',by simpa using hk,fun e he hb=>?_⟩⟩ hrk
     have hlt:=ok.edge j ok' hk e he hb;have hjn:=(hp j hj).1;rcases ok.tail i o hi ho e.on (by omega) with h2|h2
     ·exact ihj e.on hlt h2
     ·exact Eg m.closed 16 o e.on hedge h2
   refine ⟨fun h0=>?_,fun i hi=>?_⟩
   ·refine absurd (fun j=>?_) hall
    induction j using Nat.strongRecOn with
    | _ j ihj=>
     intro hj;have hjl:j<l0.length:=by have:=ok.len;omega
     have hoj:l0[j]? = some l0[j]:=List.getElem?_eq_getElem hjl;rcases Df (listed:=listed) (i:=j) (by rw [m.size];exact hjl) with h1|h1
     ·exact h1
     ·have hm:j∈Region.ready .any l0.toArray listed:=mem_ready.2 ⟨h1,l0[j],by simp [hjl],fun e he hb=>by
       have:=ok.edge j _ hoj e he hb
       exact ihj e.on this (by omega)⟩
      rw [h0] at hm;cases hm
   ·obtain ⟨hun,o,ho',hedge⟩:=mem_ready.1 hi
    have hil:i<l0.length:=by have:=Fj hun;rw [m.size] at this;exact this
    have hn:i<specs.length:=by
     rcases Nat.lt_or_ge i specs.length with h1|h1
     ·exact h1
     ·exact absurd (fun j hj=>(ok.tail i o h1 (by simpa using ho') j (by omega)).elim (fun hp=>hkl i o h1 (by simpa using ho') hedge j hp) (Eg m.closed 16 o j hedge)) hall
    exact wpOp_mono (fun a' W' m'=>ih _ a' W' (by have:=Rw hil hun;omega) m') (m.stepS ok hA hB hst hsT hvo h hn hi)
theorem Qz {id:Nat}{l:List Oper}{a:Act}{w:World}(pre:List Nat)(R T:World→World→Prop)(A B:World→Prop)(K:Nat)(specs:List FSpec)(hm:P.follows .mixedOrders=true)(hok:Jc pre specs.length a.tmps.size l=true)(hK:K<specs.length∨∀ W,A W→B W)
  (hp:∀ k∈pre,k<specs.length∧k≠K∧∃ ok' d v,l[k]? = some ok'∧ok'.dst=some d∧specs[k]? = some (.val v)∧Region.noSelect l.toArray=true∧Region.free .any l.toArray (((List.range l.toArray.size).map fun j=>Ds ok' j).toArray) k=true∧(∀ c a w,Q (.panic c) (a.put ok'.dst v) w→Q (.panic c) a w) ∧
   ∀ (a:Act) (W:World),A W∨B W→(∀ j s oj dj,specs[j]? = some s→l[j]? = some oj→oj.dst=some dj→Ds ok' j=true→s.ok W (a.tmps.getD dj undef))→Yields P l.toArray ok' v a)
  (hw:A w.drew) (hA:∀ W W',R W W'→A W→A W') (hB:∀ W W',R W W'→B W→B W') (hst:∀ s∈specs,∀ W W' v,R W W'→s.ok W v→s.ok W' v) (hsT:StableO T l K 0 l specs) (hvo:VoidAll l specs)
  (h:Bk P l R T A B K Q 0 specs l a []):(Code.region id l.toArray true).wp P Q a w:=by
 refine wp_region_any hm ?_
 have hget:∀ i:Nat,(Array.replicate l.toArray.size false).getD i false=false:=by
  intro i;rw [Array.getD_eq_getD_getElem?,Array.getElem?_replicate];split<;>rfl
 refine Zc (T:=T) (R:=R) hK hp (Pi hok) hA hB hst hsT.at' hvo h _ _ _ _ ?_ ⟨by simp,⟨fun _=>hw,fun h=>by rw [hget] at h;cases h⟩,rfl,rfl,?_,?_,?_,?_,?_,?_⟩
 ·unfold left
  refine nT (List.length_filter_le _ _) ?_;simp
 ·intro i o hi
  rw [hget] at hi;cases hi
 ·intro t _;rfl
 ·intro j o d s hj
  rw [hget] at hj;cases hj
 ·intro j _
  exact hget j
 ·intro j o s hj
  rw [hget] at hj;cases hj
 ·intro i j _ _ _ _ _ _ _ hi
  rw [hget] at hi;cases hi
theorem Dv {w0:World}{N:Nat}:∀ {ss:List FSpec} {k:Nat} {l:List Oper} {a:Act} {F:List (Nat×FSpec×Value)},k+ss.length≤N→freeSteps P l0 R w0 Q k ss l a F→Bk P l0 R R (R w0) (R w0) N Q k ss l a F
 | [],_,_,_,_,_,h=>fun W hB hF _=>h W hB hF
 | s::ss,k,[],_,_,_,h=>by cases s<;>exact h
 | .fresh _::_,_,_::_,_,_,_,h=>h.elim
 | .val c::ss,k,o::l,a,F,hN,h=>by
  simp only [List.length_cons] at hN
  simp only [freeSteps] at h
  exact ⟨Ni (by omega) fun W hW hF=>h.1 W (hW.elim id id) hF,Dv (by omega) h.2⟩
 | .pred Φ::ss,k,o::l,a,F,hN,h=>by
  simp only [List.length_cons] at hN
  simp only [freeSteps] at h
  exact ⟨Lp (by omega) fun W hW hF=>h.1 W (hW.elim id id) hF,fun v=>Dv (by omega) (h.2 v)⟩
theorem If {N:Nat}:∀ {l:List Oper} {ss:List FSpec} {k:Nat},(∀ s∈ss,∀ W W' v,R W W'→s.ok W v→s.ok W' v)→StableO R l0 N k l ss
 | [],_,_,_=>trivial
 | _::_,[],_,_=>trivial
 | _::_,s::_,_,h=>⟨.inr (h s (List.mem_cons_self ..)),If fun t ht=>h t (List.mem_cons_of_mem _ ht)⟩
def slots (n:Nat)(l:List Oper):Bool:=(l.take n).all fun o=>o.dst.isSome
theorem Om:∀ {l:List Oper} {ss:List FSpec},slots ss.length l=true→VoidAll l ss
 | [],_,_=>trivial
 | _::_,[],_=>trivial
 | o::l,s::ss,h=>by
  simp only [slots,List.length_cons,List.take_succ_cons,List.all_cons,Bool.and_eq_true] at h
  refine ⟨fun e=>?_,Om h.2⟩
  rw [e] at h
  cases h.1
def Adj (n size:Nat)(l:List Oper):Bool:=Jc [] n size l
def okFree (n size:Nat)(l:List Oper):Bool:=Jc [] n size l&&slots n l
theorem Pc {id:Nat}{l:List Oper}{a:Act}{w:World}(R:World→World→Prop)(specs:List FSpec)(hm:P.follows .mixedOrders=true)(hok:Adj specs.length a.tmps.size l=true)
  (hrf:∀ a,R a a) (htr:∀ a b c,R a b→R b c→R a c) (hdr:∀ a,R a a.drew) (hst:∀ s∈specs,∀ W W' v,R W W'→s.ok W v→s.ok W' v) (hvo:VoidAll l specs)
  (h:freeSteps P l R w Q 0 specs l a []):(Code.region id l.toArray true).wp P Q a w:=
 have _:=hrf
 Qz [] R R (R w) (R w) specs.length specs hm hok (.inr fun _ h=>h) (fun _ h=>by cases h) (hdr w) (fun _ _ h k=>htr _ _ _ k h) (fun _ _ h k=>htr _ _ _ k h) hst (If hst) hvo (Dv (by omega) h)
theorem region_free {id:Nat}{l:List Oper}{a:Act}{w:World}(R:World→World→Prop)(specs:List FSpec)(hm:P.follows .mixedOrders=true)(hok:okFree specs.length a.tmps.size l=true)
  (hrf:∀ a,R a a) (htr:∀ a b c,R a b→R b c→R a c) (hdr:∀ a,R a a.drew) (hst:∀ s∈specs,∀ W W' v,R W W'→s.ok W v→s.ok W' v)
  (h:freeSteps P l R w Q 0 specs l a []):(Code.region id l.toArray true).wp P Q a w:=by
 rw [okFree,Bool.and_eq_true] at hok;exact Pc R specs hm hok.1 hrf htr hdr hst (Om hok.2) h
end
def Stable (R:World→World→Prop)(s:FSpec):Prop:=∀ W W' v,R W W'→s.ok W v→s.ok W' v
def StableAll (R:World→World→Prop):List FSpec→Prop
 | []=>True
 | s::ss=>Stable R s∧StableAll R ss
theorem Fy {R:World→World→Prop}:∀ {ss:List FSpec},StableAll R ss→∀ s∈ss,∀ W W' v,R W W'→s.ok W v→s.ok W' v
 | [],_,s,hs=>by cases hs
 | s::ss,h,s',hs=>by
  rcases List.mem_cons.1 hs with rfl|hs
  ·exact h.1
  ·exact Fy h.2 s' hs
theorem Tb {R:World→World→Prop}(c:Value):Stable R (.val c):=fun _ _ _ _ h=>h
theorem stable_vals {R:World→World→Prop}{ss:List FSpec}(c:Value)(h:StableAll R ss):StableAll R (.val c::ss):=⟨Tb c,h⟩
end Go.Proofs.YtlknpnommcohkaaGreatDoor
namespace Go.Proofs.YtlknpnommcohkaaGreatDoor
set_option maxRecDepth 100000
open Go Go.RowKit Go.Proofs
def Ext (w w':World):Prop:=Below w.heap.size w w'
theorem Ext.refl (w:World):Ext w w:=Below.refl _ _
theorem xR (w:World):Ext w w:=Ext.refl w
theorem Ext.trans {a b c:World}(h:Ext a b)(k:Ext b c):Ext a c:=Below.trans h (Below.mono k h.size)
theorem Ext.size {a b:World}(h:Ext a b):a.heap.size≤b.heap.size:=Below.size h
theorem Ext.al {w w':World}(h:Ext w w')(o:Obj):Ext w (w'.alloc o):=Below.alloc h h.size o
theorem Ext.dr {w w':World}(h:Ext w w'):Ext w w'.drew:=Below.drew h
theorem Ext.drN {w w':World}(h:Ext w w')(n:Nat):Ext w (w'.drewN n):=⟨h.os,h.tape,h.output,h.size,h.block⟩
theorem Ext.st {w w':World}(h:Ext w w'){p:Addr}(hp:w.heap.size≤p.block)(u:Value):Ext w (w'.setCell p u):=Below.setCell h hp u
theorem Ext.gr {a w w':World}{row:Option Nat}(h:Ext a w)(hg:w.grownBy w' row)(hr:∀ k,row=some k→a.heap.size≤k):Ext a w':=Below.grown h hg h.size hr
theorem Ext.cell {w w':World}(h:Ext w w'){p:Addr}{v:Value}(hv:w.cell? p=some v):w'.cell? p=some v:=by
 have hlt:p.block<w.heap.size:=by
  unfold World.cell? at hv;split at hv
  ·rename_i he
   exact (Array.getElem?_eq_some_iff.1 he).1
  ·cases hv
 rw [Below.cell h hlt];exact hv
theorem Ext.row {w w':World}(h:Ext w w'){g:Nat}(hg:w.heap.size≤g)(cs:Array Value):Ext w (w'.setRow g cs):=below_setRow h hg cs
theorem Ext.new {w w2:World}{o:Obj}(h:Ext (w.alloc o) w2):w2.heap[w.heap.size]? = some o:=by
 rw [Below.block h w.heap.size (by simp)];exact heap_alloc_new w o
theorem Ext.blk {w w2:World}(h:Ext w w2){g:Nat}{o:Obj}(hg:w.heap[g]? = some o):w2.heap[g]? = some o:=by
 rw [Below.block h g (Array.getElem?_eq_some_iff.1 hg).1];exact hg
theorem Bl (w:World)(o:Obj)(n:Nat)(h:n=w.heap.size):(w.alloc o).heap[n]? = some o:=by
 subst h;exact heap_alloc_new w o
theorem Row.ext {w w':World}{a:Option Addr}{xs:List Value}(h:Row w a xs)(e:Ext w w'):Row w' a xs:=by
 obtain ⟨b,off,h1,h2⟩:=h;exact ⟨b,off,h1,fun j hj=>e.cell (h2 j hj)⟩
theorem Gh (w:World):Row w none []:=⟨0,0,fun h=>absurd rfl h,fun j hj=>by simp at hj⟩
def MagR (w:World)(s:Value)(l:List Nat):Prop:=∃ a c,s=.slice a l.length c∧l.length≤c∧Row w a (limV l)
def MagO (w:World)(base:Nat)(s:Value)(l:List Nat):Prop:=w.ownsRow base 150 1 s l.length (limV l)
theorem MagR.ext {w w':World}{s:Value}{l:List Nat}(h:MagR w s l)(e:Ext w w'):MagR w' s l:=by
 obtain ⟨a,c,h1,h0,h2⟩:=h;exact ⟨a,c,h1,h0,h2.ext e⟩
theorem Ca {w w':World}{base E sz n:Nat}{v:Value}{xs:List Value}(h:w.ownsRow base E sz v n xs)(e:Ext w w'):w'.ownsRow base E sz v n xs:=by
 obtain ⟨h1,h2⟩:=h;refine ⟨h1,?_⟩;rcases h2 with h2|⟨g,cap,cur,a1,a2,a3,a4⟩
 ·exact .inl h2
 ·refine .inr ⟨g,cap,cur,a1,a2,?_,a4⟩
  rw [Below.block e g (Array.getElem?_eq_some_iff.1 a3).1];exact a3
theorem Eu {w:World}{base base' E sz n:Nat}{v:Value}{xs:List Value}(h:w.ownsRow base E sz v n xs)(hb:base'≤base):w.ownsRow base' E sz v n xs:=by
 obtain ⟨h1,h2⟩:=h;refine ⟨h1,?_⟩;rcases h2 with h2|⟨g,cap,cur,a1,a2,a3⟩
 ·exact .inl h2
 ·exact .inr ⟨g,cap,cur,a1,by omega,a3⟩
theorem Dy {w:World}{base E sz n g:Nat}{v:Value}{xs:List Value}(h:w.ownsRow base E sz v n xs)(hg:g<base)(cs:Array Value):(w.setRow g cs).ownsRow base E sz v n xs:=by
 obtain ⟨h1,h2⟩:=h;refine ⟨h1,?_⟩;rcases h2 with h2|⟨k,cap,cur,a1,a2,a3,a4⟩
 ·exact .inl h2
 ·refine .inr ⟨k,cap,cur,a1,a2,?_,a4⟩
  rw [setRow_other _ _ _ _ (by omega)];exact a3
theorem Dw {w:World}{base E n:Nat}{v:Value}{xs:List Value}(h:w.ownsRow base E 1 v n xs):∃ a c,v=.slice a n c∧n≤c∧Row w a xs:=by
 obtain ⟨h1,h2⟩:=h;rcases h2 with ⟨rfl,rfl⟩|⟨g,cap,cur,rfl,a2,a3,a4,a5,a6,a7⟩
 ·have:xs=[]:=List.eq_nil_of_length_eq_zero (by simpa using h1)
  subst this;exact ⟨none,0,rfl,nR _,Gh w⟩
 ·refine ⟨_,_,rfl,a4,g,0,fun _=>rfl,fun j hj=>?_⟩
  have hj2:j<cur.size:=by omega
  have e:xs.getD j undef=cur[j]:=by
   subst a7;simp [List.getD_eq_getElem?_getD,show j<n by omega,hj2]
  rw [e];simp [World.cell?,a3,hj2]
theorem MagO.r {w:World}{base:Nat}{s:Value}{l:List Nat}(h:MagO w base s l):MagR w s l:=Dw h
theorem MagO.ext {w w':World}{base:Nat}{s:Value}{l:List Nat}(h:MagO w base s l)(e:Ext w w'):MagO w' base s l:=Ca h e
theorem MagO.mono {w:World}{base base':Nat}{s:Value}{l:List Nat}(h:MagO w base s l)(hb:base'≤base):MagO w base' s l:=Eu h hb
theorem Fh (w:World)(base:Nat):MagO w base (.slice none 0 0) []:=World.ownsRow_nil _ _ _ _
theorem Ja {w:World}{base E n:Nat}{a:Option Addr}{c:Nat}{xs:List Value}(h:w.ownsRow base E 1 (.slice a n c) n xs){m:Nat}(hm:m≤n):w.ownsRow base E 1 (.slice a m c) m (xs.take m):=by
 obtain ⟨h1,h2⟩:=h;refine ⟨by rw [List.length_take];omega,?_⟩;rcases h2 with ⟨h2,h3⟩|⟨g,cap,cur,a1,a2,a3,a4,a5,a6,a7⟩
 ·cases h2
  exact .inl ⟨by rw [show m=0 by omega],by omega⟩
 ·simp only [Value.slice.injEq] at a1
  obtain ⟨rfl,_,rfl⟩:=a1;refine .inr ⟨g,c,cur,rfl,a2,a3,by omega,a5,a6,?_⟩;rw [←a7,List.take_take];congr 1;omega
def IntR (w:World)(v:Value)(x:Int):Prop:=∃ s,v=.agg #[.bool (decide (x<0)),s]∧MagR w s (lim x.natAbs)
def IntO (w:World)(base:Nat)(v:Value)(x:Int):Prop:=∃ s,v=.agg #[.bool (decide (x<0)),s]∧MagO w base s (lim x.natAbs)
theorem IntO.r {w:World}{base:Nat}{v:Value}{x:Int}(h:IntO w base v x):IntR w v x:=by
 obtain ⟨s,h1,h2⟩:=h;exact ⟨s,h1,h2.r⟩
theorem IntR.ext {w w':World}{v:Value}{x:Int}(h:IntR w v x)(e:Ext w w'):IntR w' v x:=by
 obtain ⟨s,h1,h2⟩:=h;exact ⟨s,h1,h2.ext e⟩
theorem IntO.ext {w w':World}{base:Nat}{v:Value}{x:Int}(h:IntO w base v x)(e:Ext w w'):IntO w' base v x:=by
 obtain ⟨s,h1,h2⟩:=h;exact ⟨s,h1,h2.ext e⟩
theorem IntO.row {w:World}{base g:Nat}{v:Value}{x:Int}(h:IntO w base v x)(hg:g<base)(cs:Array Value):IntO (w.setRow g cs) base v x:=by
 obtain ⟨s,h1,h2⟩:=h;exact ⟨s,h1,Dy h2 hg cs⟩
theorem IntO.mono {w:World}{base base':Nat}{v:Value}{x:Int}(h:IntO w base v x)(hb:base'≤base):IntO w base' v x:=by
 obtain ⟨s,h1,h2⟩:=h;exact ⟨s,h1,h2.mono hb⟩
theorem MagR.shape {w:World}{s:Value}{l:List Nat}(h:MagR w s l):∃ a n c,s=.slice a n c:=by
 obtain ⟨a,c,h1,_⟩:=h;exact ⟨a,_,c,h1⟩
theorem IntR.shape {w:World}{v:Value}{x:Int}(h:IntR w v x):∃ b a n c,v=.agg #[.bool b,.slice a n c]:=by
 obtain ⟨s,h1,h2⟩:=h;obtain ⟨a,n,c,rfl⟩:=h2.shape;exact ⟨_,a,n,c,h1⟩
def RawO (w:World)(base:Nat)(v:Value)(n:Nat):Prop:=∃ r,MagO w base v r∧OkL r∧r.length≤4294967296∧val r=n
theorem RawO.ext {w w':World}{base:Nat}{v:Value}{n:Nat}(h:RawO w base v n)(e:Ext w w'):RawO w' base v n:=by
 obtain ⟨r,h1,h2⟩:=h;exact ⟨r,h1.ext e,h2⟩
theorem RawO.mono {w:World}{base base':Nat}{v:Value}{n:Nat}(h:RawO w base v n)(hb:base'≤base):RawO w base' v n:=by
 obtain ⟨r,h1,h2⟩:=h;exact ⟨r,h1.mono hb,h2⟩
theorem mixed:Tryz.prog.follows .mixedOrders=true:=by kernel_rfl
theorem Ak {id:Nat}{l:List Oper}{a:Act}{w:World}{Q:Exit→Act→World→Prop}(specs:List FSpec)(hok:okFree specs.length a.tmps.size l=true)(hst:StableAll Ext specs)
  (h:freeSteps Tryz.prog l Ext w Q 0 specs l a []):(Code.region id l.toArray true).wp Tryz.prog Q a w:=
 region_free Ext specs mixed hok Ext.refl (fun _ _ _=>Ext.trans) (fun w=>(Ext.refl w).dr) (Fy hst) h
theorem Av {ss:List FSpec}(b:Nat)(x:Int)(h:StableAll Ext ss):StableAll Ext (.pred (fun W v=>IntO W b v x)::ss):=⟨fun _ _ _ e h=>IntO.ext h e,h⟩
theorem Kx {ss:List FSpec}(b n:Nat)(h:StableAll Ext ss):StableAll Ext (.pred (fun W v=>RawO W b v n)::ss):=⟨fun _ _ _ e h=>RawO.ext h e,h⟩
theorem aL10 {w x:World}{a0:Obj}(h:x=w.alloc a0):x.heap[w.heap.size]? = some a0:=by subst h;exact Bl _ _ _ (by simp)
theorem aLe1 {w x:World}{a0:Obj}(h:x=w.alloc a0):Ext w x:=by subst h;exact (Ext.refl _).al _
theorem aLs1 {w x:World}{a0:Obj}(h:x=w.alloc a0):x.heap.size=w.heap.size+1:=by subst h;simp
theorem aL20 {w x:World}{a0 b0:Obj}(h:x=(w.alloc a0).alloc b0):x.heap[w.heap.size]? = some a0:=by subst h;exact (heap_alloc_old _ _ (by simp<;>omega)).trans (Bl _ _ _ (by simp))
theorem aL21 {w x:World}{a0 b0:Obj}(h:x=(w.alloc a0).alloc b0):x.heap[w.heap.size+1]? = some b0:=by subst h;exact Bl _ _ _ (by simp)
theorem aLe2 {w x:World}{a0 b0:Obj}(h:x=(w.alloc a0).alloc b0):Ext w x:=by subst h;exact ((Ext.refl _).al _).al _
theorem aLs2 {w x:World}{a0 b0:Obj}(h:x=(w.alloc a0).alloc b0):x.heap.size=w.heap.size+2:=by subst h;simp
theorem aL30 {w x:World}{a0 b0 c0:Obj}(h:x=((w.alloc a0).alloc b0).alloc c0):x.heap[w.heap.size]? = some a0:=by subst h;exact (heap_alloc_old _ _ (by simp<;>omega)).trans ((heap_alloc_old _ _ (by simp<;>omega)).trans (Bl _ _ _ (by simp)))
theorem aL31 {w x:World}{a0 b0 c0:Obj}(h:x=((w.alloc a0).alloc b0).alloc c0):x.heap[w.heap.size+1]? = some b0:=by subst h;exact (heap_alloc_old _ _ (by simp<;>omega)).trans (Bl _ _ _ (by simp))
theorem aL32 {w x:World}{a0 b0 c0:Obj}(h:x=((w.alloc a0).alloc b0).alloc c0):x.heap[w.heap.size+2]? = some c0:=by subst h;exact Bl _ _ _ (by simp)
theorem aLe3 {w x:World}{a0 b0 c0:Obj}(h:x=((w.alloc a0).alloc b0).alloc c0):Ext w x:=by subst h;exact (((Ext.refl _).al _).al _).al _
theorem aLs3 {w x:World}{a0 b0 c0:Obj}(h:x=((w.alloc a0).alloc b0).alloc c0):x.heap.size=w.heap.size+3:=by subst h;simp
theorem aL40 {w x:World}{a0 b0 c0 d0:Obj}(h:x=(((w.alloc a0).alloc b0).alloc c0).alloc d0):x.heap[w.heap.size]? = some a0:=by subst h;exact (heap_alloc_old _ _ (by simp<;>omega)).trans ((heap_alloc_old _ _ (by simp<;>omega)).trans ((heap_alloc_old _ _ (by simp<;>omega)).trans (Bl _ _ _ (by simp))))
theorem aL41 {w x:World}{a0 b0 c0 d0:Obj}(h:x=(((w.alloc a0).alloc b0).alloc c0).alloc d0):x.heap[w.heap.size+1]? = some b0:=by subst h;exact (heap_alloc_old _ _ (by simp<;>omega)).trans ((heap_alloc_old _ _ (by simp<;>omega)).trans (Bl _ _ _ (by simp)))
theorem aL42 {w x:World}{a0 b0 c0 d0:Obj}(h:x=(((w.alloc a0).alloc b0).alloc c0).alloc d0):x.heap[w.heap.size+2]? = some c0:=by subst h;exact (heap_alloc_old _ _ (by simp<;>omega)).trans (Bl _ _ _ (by simp))
theorem aL43 {w x:World}{a0 b0 c0 d0:Obj}(h:x=(((w.alloc a0).alloc b0).alloc c0).alloc d0):x.heap[w.heap.size+3]? = some d0:=by subst h;exact Bl _ _ _ (by simp)
theorem aLe4 {w x:World}{a0 b0 c0 d0:Obj}(h:x=(((w.alloc a0).alloc b0).alloc c0).alloc d0):Ext w x:=by subst h;exact ((((Ext.refl _).al _).al _).al _).al _
theorem aL50 {w x:World}{a0 b0 c0 d0 e0:Obj}(h:x=((((w.alloc a0).alloc b0).alloc c0).alloc d0).alloc e0):x.heap[w.heap.size]? = some a0:=by subst h;exact (heap_alloc_old _ _ (by simp<;>omega)).trans ((heap_alloc_old _ _ (by simp<;>omega)).trans ((heap_alloc_old _ _ (by simp<;>omega)).trans ((heap_alloc_old _ _ (by simp<;>omega)).trans (Bl _ _ _ (by simp)))))
theorem aL51 {w x:World}{a0 b0 c0 d0 e0:Obj}(h:x=((((w.alloc a0).alloc b0).alloc c0).alloc d0).alloc e0):x.heap[w.heap.size+1]? = some b0:=by subst h;exact (heap_alloc_old _ _ (by simp<;>omega)).trans ((heap_alloc_old _ _ (by simp<;>omega)).trans ((heap_alloc_old _ _ (by simp<;>omega)).trans (Bl _ _ _ (by simp))))
theorem aL52 {w x:World}{a0 b0 c0 d0 e0:Obj}(h:x=((((w.alloc a0).alloc b0).alloc c0).alloc d0).alloc e0):x.heap[w.heap.size+2]? = some c0:=by subst h;exact (heap_alloc_old _ _ (by simp<;>omega)).trans ((heap_alloc_old _ _ (by simp<;>omega)).trans (Bl _ _ _ (by simp)))
theorem aL53 {w x:World}{a0 b0 c0 d0 e0:Obj}(h:x=((((w.alloc a0).alloc b0).alloc c0).alloc d0).alloc e0):x.heap[w.heap.size+3]? = some d0:=by subst h;exact (heap_alloc_old _ _ (by simp<;>omega)).trans (Bl _ _ _ (by simp))
theorem aL54 {w x:World}{a0 b0 c0 d0 e0:Obj}(h:x=((((w.alloc a0).alloc b0).alloc c0).alloc d0).alloc e0):x.heap[w.heap.size+4]? = some e0:=by subst h;exact Bl _ _ _ (by simp)
theorem ceL0 {w:World}{g T:Nat}{v0:Value}{r:List Value}(h:w.heap[g]? = some (.cells (List.toArray (v0::r)) T (0,0))):w.cell? ⟨g,0,none⟩=some v0:=by simp [World.cell?,h]
theorem ceX0 {w:World}{g T:Nat}{v0:Value}{r:List Value}(h:w.heap[g]? = some (.cells (List.toArray (v0::r)) T (0,0))):∀ W,Ext w W→W.cell? ⟨g,0,none⟩=some v0:=fun _ e=>e.cell (ceL0 h)
theorem ceL1 {w:World}{g T:Nat}{v0 v1:Value}{r:List Value}(h:w.heap[g]? = some (.cells (List.toArray (v0::v1::r)) T (0,0))):w.cell? ⟨g,0,none⟩=some v0∧w.cell? ⟨g,1,none⟩=some v1:=by simp [World.cell?,h]
theorem ceX1 {w:World}{g T:Nat}{v0 v1:Value}{r:List Value}(h:w.heap[g]? = some (.cells (List.toArray (v0::v1::r)) T (0,0))):(∀ W,Ext w W→W.cell? ⟨g,0,none⟩=some v0)∧(∀ W,Ext w W→W.cell? ⟨g,1,none⟩=some v1):=by
 obtain ⟨h0,h1⟩:=ceL1 h;exact ⟨fun _ e=>e.cell h0,fun _ e=>e.cell h1⟩
theorem ceL3 {w:World}{g T:Nat}{v0 v1 v2 v3:Value}{r:List Value}(h:w.heap[g]? = some (.cells (List.toArray (v0::v1::v2::v3::r)) T (0,0))):w.cell? ⟨g,0,none⟩=some v0∧w.cell? ⟨g,1,none⟩=some v1∧w.cell? ⟨g,2,none⟩=some v2∧w.cell? ⟨g,3,none⟩=some v3:=by simp [World.cell?,h]
theorem ceX3 {w:World}{g T:Nat}{v0 v1 v2 v3:Value}{r:List Value}(h:w.heap[g]? = some (.cells (List.toArray (v0::v1::v2::v3::r)) T (0,0))):(∀ W,Ext w W→W.cell? ⟨g,0,none⟩=some v0)∧(∀ W,Ext w W→W.cell? ⟨g,1,none⟩=some v1)∧(∀ W,Ext w W→W.cell? ⟨g,2,none⟩=some v2)∧(∀ W,Ext w W→W.cell? ⟨g,3,none⟩=some v3):=by
 obtain ⟨h0,h1,h2,h3⟩:=ceL3 h;exact ⟨fun _ e=>e.cell h0,fun _ e=>e.cell h1,fun _ e=>e.cell h2,fun _ e=>e.cell h3⟩
theorem ceL5 {w:World}{g T:Nat}{v0 v1 v2 v3 v4 v5:Value}{r:List Value}(h:w.heap[g]? = some (.cells (List.toArray (v0::v1::v2::v3::v4::v5::r)) T (0,0))):w.cell? ⟨g,0,none⟩=some v0∧w.cell? ⟨g,1,none⟩=some v1∧w.cell? ⟨g,2,none⟩=some v2∧w.cell? ⟨g,3,none⟩=some v3∧w.cell? ⟨g,4,none⟩=some v4∧w.cell? ⟨g,5,none⟩=some v5:=by simp [World.cell?,h]
theorem ceL7 {w:World}{g T:Nat}{v0 v1 v2 v3 v4 v5 v6 v7:Value}{r:List Value}(h:w.heap[g]? = some (.cells (List.toArray (v0::v1::v2::v3::v4::v5::v6::v7::r)) T (0,0))):w.cell? ⟨g,0,none⟩=some v0∧w.cell? ⟨g,1,none⟩=some v1∧w.cell? ⟨g,2,none⟩=some v2∧w.cell? ⟨g,3,none⟩=some v3∧w.cell? ⟨g,4,none⟩=some v4∧w.cell? ⟨g,5,none⟩=some v5∧w.cell? ⟨g,6,none⟩=some v6∧w.cell? ⟨g,7,none⟩=some v7:=by simp [World.cell?,h]
theorem ceX7 {w:World}{g T:Nat}{v0 v1 v2 v3 v4 v5 v6 v7:Value}{r:List Value}(h:w.heap[g]? = some (.cells (List.toArray (v0::v1::v2::v3::v4::v5::v6::v7::r)) T (0,0))):(∀ W,Ext w W→W.cell? ⟨g,0,none⟩=some v0)∧(∀ W,Ext w W→W.cell? ⟨g,1,none⟩=some v1)∧(∀ W,Ext w W→W.cell? ⟨g,2,none⟩=some v2)∧(∀ W,Ext w W→W.cell? ⟨g,3,none⟩=some v3)∧(∀ W,Ext w W→W.cell? ⟨g,4,none⟩=some v4)∧(∀ W,Ext w W→W.cell? ⟨g,5,none⟩=some v5)∧(∀ W,Ext w W→W.cell? ⟨g,6,none⟩=some v6)∧(∀ W,Ext w W→W.cell? ⟨g,7,none⟩=some v7):=by
 obtain ⟨h0,h1,h2,h3,h4,h5,h6,h7⟩:=ceL7 h;exact ⟨fun _ e=>e.cell h0,fun _ e=>e.cell h1,fun _ e=>e.cell h2,fun _ e=>e.cell h3,fun _ e=>e.cell h4,fun _ e=>e.cell h5,fun _ e=>e.cell h6,fun _ e=>e.cell h7⟩
theorem ceL8 {w:World}{g T:Nat}{v0 v1 v2 v3 v4 v5 v6 v7 v8:Value}{r:List Value}(h:w.heap[g]? = some (.cells (List.toArray (v0::v1::v2::v3::v4::v5::v6::v7::v8::r)) T (0,0))):w.cell? ⟨g,0,none⟩=some v0∧w.cell? ⟨g,1,none⟩=some v1∧w.cell? ⟨g,2,none⟩=some v2∧w.cell? ⟨g,3,none⟩=some v3∧w.cell? ⟨g,4,none⟩=some v4∧w.cell? ⟨g,5,none⟩=some v5∧w.cell? ⟨g,6,none⟩=some v6∧w.cell? ⟨g,7,none⟩=some v7∧w.cell? ⟨g,8,none⟩=some v8:=by simp [World.cell?,h]
theorem ceX8 {w:World}{g T:Nat}{v0 v1 v2 v3 v4 v5 v6 v7 v8:Value}{r:List Value}(h:w.heap[g]? = some (.cells (List.toArray (v0::v1::v2::v3::v4::v5::v6::v7::v8::r)) T (0,0))):(∀ W,Ext w W→W.cell? ⟨g,0,none⟩=some v0)∧(∀ W,Ext w W→W.cell? ⟨g,1,none⟩=some v1)∧(∀ W,Ext w W→W.cell? ⟨g,2,none⟩=some v2)∧(∀ W,Ext w W→W.cell? ⟨g,3,none⟩=some v3)∧(∀ W,Ext w W→W.cell? ⟨g,4,none⟩=some v4)∧(∀ W,Ext w W→W.cell? ⟨g,5,none⟩=some v5)∧(∀ W,Ext w W→W.cell? ⟨g,6,none⟩=some v6)∧(∀ W,Ext w W→W.cell? ⟨g,7,none⟩=some v7)∧(∀ W,Ext w W→W.cell? ⟨g,8,none⟩=some v8):=by
 obtain ⟨h0,h1,h2,h3,h4,h5,h6,h7,h8⟩:=ceL8 h;exact ⟨fun _ e=>e.cell h0,fun _ e=>e.cell h1,fun _ e=>e.cell h2,fun _ e=>e.cell h3,fun _ e=>e.cell h4,fun _ e=>e.cell h5,fun _ e=>e.cell h6,fun _ e=>e.cell h7,fun _ e=>e.cell h8⟩
theorem exL {a b:World}{P:World→Prop}(h:∀ W,Ext a W→P W)(k:Ext a b):∀ W,Ext b W→P W:=fun W e=>h W (k.trans e)
theorem Co {l:List Nat}{k:Nat}(h:k<l.length):limV l≠[]:=by
 intro h0;have:=congrArg List.length h0;simp [limV] at this;subst this;simp at h
theorem Ll (a:Option Addr)(l:List Nat)(c:Nat)(w:World)(hok:OkL l)(hlen:l.length≤4294967296)(hcap:l.length≤c)(h:Row w a (limV l)) :
  Calls Tryz.prog 182 #[.slice a l.length c] w fun e w'=>e=.returned (.slice a (lim (val l)).length c)∧w=w':=by
 obtain ⟨b,off,ha,hc⟩:=h;replace hc:=mK hc;replace ha:=mK ha;go_enter Tryz.func182,Tryz.ntmps182;go_wp2_with fail;go_loop [0] (fun s=>∃ m:Nat,m≤l.length∧s=.slice a m c∧val (l.take m)=val l) (fun s=>match s with | .slice _ n _=>n|_=>0)
 case atStart=>exact ⟨l.length,nR _,rfl,by rw [List.take_length]⟩
 case round=>
  obtain ⟨m,hm,rfl,hv⟩:=hrel;replace hv:=mK hv;by_cases h0:m=0
  ·subst h0
   have e0:lim (val l)=[]:=by rw [←hv.out,List.take_zero];exact Az
   replace e0:=mK (congrArg List.length e0);go_wp2_with fail;go_ret;exact ⟨by rw [e0.out];rfl,rfl⟩
  ·obtain ⟨k,rfl⟩:∃ k,m=k+1:=⟨m-1,by omega⟩
   have hcell:=hc.out k (by rw [Cc];omega);rw [Dg _ _ (by omega)] at hcell;have ha2:=ha.out (Co (show k<l.length by omega));by_cases hz:l.getD k 0=0
   ·have HV:Hid (val (l.take k)=val l):=by
     have:=Ao l k (by omega);rw [hz] at this;exact mK (by rw [←hv.out,this];simp)
    rw [hz] at hcell;replace hz:=mK hz;rw [ha2];replace ha2:=mK ha2;go_wp2_with fail;go_round
    case rel=>exact ⟨k,by omega,rfl,HV.out⟩
    case measure=>simp
   ·have e0:lim (val l)=l.take (k+1):=by
     rw [←hv.out];refine Pp (Cf hok _) (.inr ?_);rw [List.take_succ_eq_append_getElem (by omega),List.getLastD_eq_getLast?,List.getLast?_append];simpa [show k<l.length by omega] using hz
    have hn:(lim (val l)).length=k+1:=by rw [e0,List.length_take];omega
    have hz2:(((l.getD k 0:Nat):Int)==0)=false:=by simpa using hz
    replace e0:=mK e0;replace hn:=mK hn;replace hz:=mK hz;generalize l.getD k 0=y at hcell hz2;rw [ha2];replace ha2:=mK ha2;go_wp2_with fail;go_ret;exact ⟨by rw [hn.out,ha2.out];rfl,rfl⟩
theorem MagO.lim {w:World}{base:Nat}{a:Option Addr}{c:Nat}{l:List Nat}(h:MagO w base (.slice a l.length c) l)(hok:OkL l):MagO w base (.slice a (lim (val l)).length c) (lim (val l)):=by
 unfold MagO at *;have:=Ja h (He hok)
 rwa [←Ny,Aag hok] at this
def sg (neg:Bool)(n:Nat):Int:=if neg then -(n:Int) else n
theorem Nj (neg:Bool)(n:Nat):(sg neg n).natAbs=n:=by unfold sg;split<;>simp
theorem Aaq (neg:Bool)(n:Nat):decide (sg neg n<0)=(neg&&decide (n≠0)):=by
 unfold sg;cases neg
 ·simp
 ·rw [Bool.eq_iff_iff]
  simp;omega
theorem Iv (neg:Bool)(base:Nat)(s:Value)(l:List Nat)(w:World)(hok:OkL l)(hlen:l.length≤4294967296)(h:MagO w base s l) :
  Calls Tryz.prog 180 #[.bool neg,s] w fun e w'=>∃ v,e=.returned v∧IntO w' base v (sg neg (val l))∧Ext w w':=by
 obtain ⟨a,c,rfl,hcap,hrow⟩:=Dw h;replace h:=mK h;replace hrow:=mK hrow;have HT:=fun w' (e:Row w' a (limV l))=>Ll a l c w' hok hlen hcap e;by_cases h0:val l=0
 ·rw [h0,Az] at HT
  have hr:∀ w':World,IntO w' base (.agg #[.bool false,.slice none 0 0]) (sg neg (val l)):=fun w'=>
   ⟨.slice none 0 0,by rw [Aaq,h0];simp,by rw [Nj,h0,Az];exact Fh _ _⟩
  replace HT:=mK HT;clear h0;go_enter Tryz.func180,Tryz.ntmps180;go_wp2_with fail;refine (HT.out _ (hrow.out.ext ((xR _).al _))).mono ?_;rintro e w' ⟨rfl,rfl⟩;go_wp2_with fail;exact bodyPost_ret (v:=.agg #[.bool false,.slice none 0 0]) (by simp [results,Tryz.results180,go_sem]) rfl ⟨_,rfl,hr _,(xR _).al _⟩
 ·have hne:(((lim (val l)).length:Int)==0)=false:=by
   rw [Cg h0];simp;omega
  have hr:∀ w':World,Ext w w'→IntO w' base (.agg #[.bool neg,.slice a (lim (val l)).length c]) (sg neg (val l)):=fun w' e=>
   ⟨.slice a (lim (val l)).length c,by rw [Aaq];simp [h0],by rw [Nj];exact (h.out.lim hok).ext e⟩
  replace HT:=mK HT;clear h0;go_enter Tryz.func180,Tryz.ntmps180;go_wp2_with fail;refine (HT.out _ (hrow.out.ext ((xR _).al _))).mono ?_;rintro e w' ⟨rfl,rfl⟩;go_wp2_with fail;exact bodyPost_ret (v:=.agg #[.bool neg,.slice a (lim (val l)).length c]) (by simp [results,Tryz.results180,go_sem]) rfl ⟨_,rfl,hr _ ((xR _).al _),(xR _).al _⟩
theorem Im:(Tryz.prog.info? 150).map (fun i=>(i.zero,i.size,i.bytes))=some (some (.int .u32 0),1,4):=by kernel_rfl
theorem Jr:Tryz.prog.underlying 24=some (.slice 150):=by kernel_rfl
theorem Abq (l:List Nat):∀ u∈limV l,u.oneCell'=true:=by
 intro u hu;simp only [limV,List.mem_map] at hu;obtain ⟨x,_,rfl⟩:=hu;rfl
theorem Xr {w:World}{b off:Nat}{xs:List Value}(h:∀ j,j<xs.length→w.cell? ⟨b,off+j,none⟩=some (xs.getD j undef)) :
  ∀ j u,xs[j]? = some u→w.cell? ((⟨b,off,none⟩:Addr).add j)=some u:=by
 intro j u hu;have hj:=(List.getElem?_eq_some_iff.1 hu).1;have:=h j hj
 have e:(⟨b,off,none⟩:Addr).add j=⟨b,off+j,none⟩:=by
  unfold Addr.add;split
  ·rename_i h0;subst h0;rfl
  ·rfl
 rw [e,this];simp [List.getD_eq_getElem?_getD,hu]
theorem Jl (a:Option Addr)(l:List Nat)(c:Nat)(w:World)(hlen:l.length≤4294967296)(h:Row w a (limV l)) :
  Calls Tryz.prog 181 #[.slice a l.length c] w fun e w'=>∃ v,e=.returned v∧MagO w' w.heap.size v l∧Ext w w':=by
 obtain ⟨b,off,ha,hc⟩:=h;have hnil:=fun w=>Lib.run_eql_slice_nil (P:=Tryz.prog) w 24 150 a l.length c 0 0 Jr;cases a with
 | none=>
  have hl:l=[]:=by
   cases l with
   | nil=>rfl
   | cons x l=>exact absurd (ha (by simp [limV])) (by simp)
  subst hl;clear ha hc hlen;simp only [List.length_nil,Option.isNone_none] at hnil ⊢;go_enter Tryz.func181,Tryz.ntmps181;go_wp2_with fail;go_ret;exact ⟨_,rfl,Fh _ _,xR _⟩
 | some ad=>
  have hnews:∀ j u,(limV l)[j]? = some u→w.cell? (ad.add j)=some u:=by
   intro j u hu
   have hne:limV l≠[]:=by
    intro h0;rw [h0] at hu;cases hu
   have:=ha hne;rw [Option.some.inj this];exact Xr hc j u hu
  replace hnews:=mK hnews;clear ha hc;obtain ⟨i0,hi,hz0,hz1,hz2⟩:=info_parts Im;go_enter Tryz.func181,Tryz.ntmps181;go_wp2_with (at_builtin;refine wpList_append_own _ rfl (.tmp 5) (.tmp 6) 24 rfl w.heap.size 150 i0 (.int .u32 0) 1 4 Jr hi hz0 hz1 hz2 rfl (by decide) (.slice (some ⟨w.heap.size,0,none⟩) 0 0) 0 [] rfl ?c0 ad l.length c (limV l) rfl ?c1 ?c2 ?c3 ?c4 ?c5 ?c6 ?_)
  case c0=>exact World.ownsRow_made _ _ _ (nR _) (by simp [maxLen]) (by simp)
  case c1=>simp [limV]
  case c2=>exact fun j u hu=>((xR w).al _).cell (hnews.out j u hu)
  case c3=>exact Abq l
  case c4=>unfold maxLen;omega
  case c5=>omega
  case c6=>simp
  intro v' w1 hown hgrow _
  have hr:MagO w1 w.heap.size v' l:=by
   simpa [MagO] using hown
  have he:Ext w w1:=((xR w).al _).gr hgrow (fun k hk=>by simp [Value.ownBlock] at hk;omega);clear hown hgrow;go_wp2;go_ret;exact ⟨_,rfl,hr,he⟩
theorem Aeu (neg:Bool)(a:Option Addr)(l:List Nat)(c:Nat)(w:World)(hok:OkL l)(hlen:l.length≤4294967296)(h:Row w a (limV l)) :
  Calls Tryz.prog 226 #[.bool neg,.slice a l.length c] w fun e w'=>∃ v,e=.returned v∧IntO w' w.heap.size v (sg neg (val l))∧Ext w w':=by
 replace h:=mK h;go_enter Tryz.func226,Tryz.ntmps226;go_wp2_with fail;refine (Jl a l c _ hlen (h.out.ext ((xR _).al _))).mono ?_;rintro e w1 ⟨v1,rfl,hm,he⟩;replace hm:=mK hm;replace he:=mK he;go_wp2_with fail;refine (Iv neg _ v1 l w1 hok hlen hm.out).mono ?_;rintro e w2 ⟨v2,rfl,hi,he2⟩;have hE:Ext w w2:=(((xR w).al _).trans he.out).trans he2;have hB:=Ext.new (he.out.trans he2);obtain ⟨nb,a2,n2,c2,rfl⟩:=hi.r.shape;have hR:IntO (w2.setRow w.heap.size #[.bool nb,.slice a2 n2 c2]) w.heap.size (.agg #[.bool nb,.slice a2 n2 c2]) (sg neg (val l)):=(hi.row (by have:=he.out.size;simp at this ⊢;try omega) _).mono (by have:=he.out.size;simp at this ⊢;try omega);go_wp2_with (refine wpList_store_row rfl 26 (.tmp 4) (.tmp 8) rfl w.heap.size #[.bool nb,.slice a2 n2 c2] rfl rfl 26 _ hB (by kernel_rfl) rfl (by kernel_rfl) ?_);exact bodyPost_ret (results_cell_row rfl _ _ w.heap.size 26 #[.bool nb,.slice a2 n2 c2] (0,0) _ rfl (setRow_heap _ _ _ _ _ _ hB) Tryz.underlying26 rfl (by kernel_rfl)) rfl ⟨_,rfl,hR,hE.row (nR _) _⟩
def Xb (r:Int)(m n:Nat):Prop:=(r<0↔m<n)∧(r=0↔m=n)∧-9223372036854775807≤r∧r≤9223372036854775807
theorem We {m n:Nat}(h:¬m=n):((m:Int) != (n:Int))=true:=by
 have:¬(m:Int)=n:=by omega
 simpa using this
theorem Lr (a a':Option Addr)(c c':Nat)(m n:Nat)(w:World)(hl:(lim m).length≤4294967296)(hl':(lim n).length≤4294967296)
  (h:Row w a (limV (lim m))) (h':Row w a' (limV (lim n))) :
  Calls Tryz.prog 179 #[.slice a (lim m).length c,.slice a' (lim n).length c'] w fun e w'=>∃ r,e=.returned (.int .i64 r)∧Xb r m n∧Ext w w':=by
 obtain ⟨l,hlm⟩:=nmE (lim m);obtain ⟨l',hln⟩:∃ l',l'=lim n:=⟨_,rfl⟩
 have hok:OkL l:=hlm ▸ By m;have hok':OkL l':=hln ▸ By n;have hv:val l=m:=by rw [hlm,Bn]
 have hv':val l'=n:=by rw [hln,Bn]
 rw [←hlm] at hl h ⊢;rw [←hln] at hl' h' ⊢;by_cases hlen:l.length=l'.length
 ·have hE:Hid (l.length=l'.length):=mK hlen
  obtain ⟨b,off,ha,hc⟩:=h;obtain ⟨b',off',ha',hc'⟩:=h';replace ha:=mK ha;replace ha':=mK ha';replace hc:=mK hc;replace hc':=mK hc';replace hv:=mK hv;replace hv':=mK hv';rw [←hlen];clear hlm hln hl' hlen;go_enter Tryz.func179,Tryz.ntmps179;go_wp2_with fail;go_loopw [5] (fun i wr=>∃ k:Nat,k≤l.length∧i=.int .i64 ((k:Int)-1)∧l.drop k=l'.drop k∧Ext w wr) (fun i _=>(intOf i+1).toNat)
  case atStart=>exact ⟨l.length,nR _,rfl,by rw [List.drop_length,hE.out,List.drop_length],xR _⟩
  case round=>
   obtain ⟨k,hk,rfl,hd,he⟩:=hrel;replace hd:=mK hd;replace he:=mK he;by_cases h0:k=0
   ·subst h0
    go_wp2_with fail;go_ret;have e:l=l':=by simpa using hd.out
    exact ⟨0,rfl,⟨by rw [←hv.out,←hv'.out,e];omega,by rw [←hv.out,←hv'.out,e];simp,by omega,by omega⟩,he.out⟩
   ·obtain ⟨j,rfl⟩:∃ j,k=j+1:=⟨k-1,by omega⟩
    have h1:=he.out.cell (hc.out j (by rw [Cc];omega));have h2:=he.out.cell (hc'.out j (by rw [Cc];have:=hE.out;omega));rw [Dg _ _ (by omega)] at h1;rw [Dg _ _ (by have:=hE.out;omega)] at h2;rw [ha.out (Co (show j<l.length by omega)),ha'.out (Co (show j<l'.length by have:=hE.out;omega))];have hx1:((j+1:Nat):Int)-1=(j:Int):=by omega
    rw [hx1]
    have d1:l.drop j=l.getD j 0::l.drop (j+1):=by
     rw [List.drop_eq_getElem_cons (show j<l.length by omega)];simp [show j<l.length by omega]
    have d2:l'.drop j=l'.getD j 0::l'.drop (j+1):=by
     have:=hE.out;rw [List.drop_eq_getElem_cons (show j<l'.length by omega)];simp [show j<l'.length by omega]
    by_cases hx:l.getD j 0=l'.getD j 0
    ·have hdn:Hid (l.drop j=l'.drop j):=mK (by rw [d1,d2,hx,hd.out])
     rw [←hx] at h2;generalize l.getD j 0=y at h1 h2;clear d1 d2 hx hx1;go_wp2_with fail;go_quiet (fail);go_wp2_with fail;go_roundw
     case rel=>exact ⟨j,by omega,by go_num,hdn.out,he.out.drN _⟩
     case measure=>simp [intOf]<;>omega
    ·have hlt:(l.getD j 0<l'.getD j 0→val l<val l')∧(l'.getD j 0<l.getD j 0→val l'<val l):=
      ⟨Nb hok j (by omega) hE.out hd.out,Nb hok' j (by have:=hE.out;omega) hE.out.symm hd.out.symm⟩
     replace hlt:=mK hlt;clear d1 d2 hx1;have hyb:(((l.getD j 0:Nat):Int) != ((l'.getD j 0:Nat):Int))=true:=We hx;by_cases hy:l.getD j 0<l'.getD j 0
     ·have hr:=hlt.out.1 hy
      replace hr:=mK hr;have hy2:(((l.getD j 0:Nat):Int))<((l'.getD j 0:Nat):Int):=by omega
      replace hx:=mK hx;replace hy:=mK hy;generalize l.getD j 0=y at h1 hyb hy2;generalize l'.getD j 0=y' at h2 hyb hy2;go_wp2_with fail;go_quiet (fail);go_wp2_with fail;go_quiet (fail);go_wp2_with fail;go_ret;exact ⟨-1,rfl,⟨by rw [←hv.out,←hv'.out];simp [hr.out],by rw [←hv.out,←hv'.out];have:=hr.out;omega,by omega,by omega⟩,(he.out.drN _).drN _⟩
     ·have hr:=hlt.out.2 (by omega)
      replace hr:=mK hr;have hy2:¬((((l.getD j 0:Nat):Int))<((l'.getD j 0:Nat):Int)):=by omega
      replace hx:=mK hx;replace hy:=mK hy;generalize l.getD j 0=y at h1 hyb hy2;generalize l'.getD j 0=y' at h2 hyb hy2;go_wp2_with fail;go_quiet (fail);go_wp2_with fail;go_quiet (fail);go_wp2_with fail;go_ret;exact ⟨1,rfl,⟨by rw [←hv.out,←hv'.out];have:=hr.out;omega,by rw [←hv.out,←hv'.out];have:=hr.out;omega,by omega,by omega⟩,(he.out.drN _).drN _⟩
 ·have hr:Xb ((l.length:Int)-l'.length) m n:=by
   subst hlm;subst hln;refine ⟨⟨fun h=>Kc (by omega),fun h=>?_⟩,⟨fun h=>absurd (by omega) hlen,fun h=>?_⟩,by omega,by omega⟩
   ·have:=Cq (Nat.le_of_lt h);omega
   ·subst h;omega
  have hne:(((l.length:Nat):Int) != ((l'.length:Nat):Int))=true:=We hlen;replace hr:=mK hr;clear hlm hln hok hok' hv hv' h h' hlen;go_enter Tryz.func179,Tryz.ntmps179;go_wp2_with fail;go_ret;exact ⟨_,rfl,hr.out,xR _⟩
end Go.Proofs.YtlknpnommcohkaaGreatDoor
