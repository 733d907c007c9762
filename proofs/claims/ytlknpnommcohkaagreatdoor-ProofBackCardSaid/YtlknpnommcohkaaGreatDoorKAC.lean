/-
  exact: divide: adding back; moving down. DERIVED: THE SHELF's CONTRACTS AT THIS DUMP, IN PLAIN WORDS (tools/lay-plain.mjs out of 'YtlknpnommcohkaaGreatDoorShelf.lean', which tools/lay-shelf.mjs wrote): THE SAME DECLARATIONS UNDER THE SAME NAMES: 'import', 'namespace', 'open', 'def', 'theorem' AND NOTHING ELSE: no command of the shelf's: FOR A HAND-IN. Each laying: the table of numbers ('.._ren') and one theorem, a field a fact of the dump's own or the kernel's comparison; each contract: ONE APPLICATION. exact: divide, walked. exact: Divide. exact: Divide, walked. exact: Divide by many limbs; Divide. As Free, with values whose blocks are all new: those of two such lie apart. Regions that make several variables: Aloof's law under another name. Regions that make several variables: no function.
-/
import Derived.Test.YtlknpnommcohkaaGreatDoorKAB
import Derived.Shelf.Strings.Builder1
import Derived.Shelf.Strings.Trim
import Derived.Shelf.Small.Utf8
import Derived.Shelf.Small.Bits
import Derived.Shelf.Small.Strs
import Derived.Shelf.Small.Wraps
import Derived.Shelf.Strings.BuilderF
import Derived.Shelf.Strings.BuilderK
import Derived.Shelf.Strconv.Atoi
import Derived.Shelf.Strconv.Itoa0
import Derived.Shelf.Strconv.Itoa1
import Derived.Shelf.LaysM
import Derived.Shelf.Strconv.Itoa2
import Derived.Shelf.Strconv.Itoa3
import Derived.Shelf.Strings.Search1
import Derived.Shelf.Strings.Search2
import Derived.Shelf.Strings.Search3
import Derived.Shelf.Strings.Cut
import Derived.Shelf.Strings.Count
import Derived.Shelf.Strings.Shaped
import Derived.Shelf.Strings.Prefix
import Derived.Shelf.Strings.Split
import Derived.Shelf.Strings.SplitShaped
import Derived.Shelf.Strings.Runes
import Derived.Shelf.Strings.AsciiSet
import Derived.Shelf.Unicode.DecodeSlow
import Derived.Test.YtlknpnommcohkaaGreatDoorProg
import Derived.Deep.DeepCutAuto
import Derived.Deep.CutBlock
import Derived.Lib.ItoaNum
import Derived.Test.YtlknpnommcohkaaGreatDoorKAA
set_option maxHeartbeats 6400000
namespace Go.Proofs.YtlknpnommcohkaaGreatDoor
set_option maxRecDepth 100000
open Go Go.RowKit Go.Proofs
def AddB (p d:List Nat)(k c:Nat)(r:List Nat):Prop:=
 r.length=p.length∧OkL r∧r.drop k=p.drop k∧c≤1∧val (p.take k)+val (d.take k)=val (r.take k)+4294967296 ^ k*c
theorem Vj (p d:List Nat)(h:OkL p):AddB p d 0 0 p:=⟨rfl,h,rfl,by omega,by simp [val]⟩
theorem Zt {p d r:List Nat}{k c:Nat}(h:AddB p d k c r)(hk:k<p.length)(hkd:k<d.length)(hp:OkL p)(hd:OkL d) :
  AddB p d (k+1) ((p.getD k 0+d.getD k 0+c)/4294967296) (r.set k ((p.getD k 0+d.getD k 0+c)%4294967296)):=by
 obtain ⟨h1,h2,h3,h4,h5⟩:=h;have e1:=Ao p k hk;have e2:=Ao d k hkd;have e3:=Bs r k ((p.getD k 0+d.getD k 0+c)%4294967296) (by omega);have hx:=As hp k;have hy:=As hd k;refine ⟨by simpa using h1,Cn h2 (Nat.mod_lt _ (by omega)),?_,by omega,?_⟩
 ·rw [List.drop_set_of_lt (by omega)]
  have:=congrArg (List.drop 1) h3;simpa [List.drop_drop,Nat.add_comm] using this
 ·rw [e1,e2,e3,Nat.pow_succ]
  have e:=Nat.mod_add_div (p.getD k 0+d.getD k 0+c) 4294967296;generalize (p.getD k 0+d.getD k 0+c)%4294967296=lo at *;generalize (p.getD k 0+d.getD k 0+c)/4294967296=hi at *;generalize p.getD k 0=x at *;generalize d.getD k 0=y at *;generalize 4294967296 ^ k=P at *;clear e1 e2 e3 hx hy hp hd hk hkd h1 h2 h3;have m1:P*(lo+4294967296*hi)=P*(x+y+c):=by rw [e]
  grind
theorem Acs {p d r:List Nat}{c m:Nat}(h:AddB p d m c r)(hd:d.length=m)(hl:p.length=m+1)(y:Nat)(hy:y=(p.getD m 0+c)%4294967296) :
  (r.set m y).length=m+1∧OkL (r.set m y)∧(val (r.set m y)=val p+val d∨val (r.set m y)+4294967296 ^ (m+1)=val p+val d):=by
 obtain ⟨h1,h2,h3,h4,h5⟩:=h;have hy2:y<4294967296:=by omega
 have e1:=Ao p m (by omega);have e3:=Bs r m y (by omega);have hx:p.getD m 0<4294967296∨4294967296≤p.getD m 0:=by omega
 rw [List.take_of_length_le (by omega)] at e1;rw [List.take_of_length_le (by rw [List.length_set];omega)] at e3;rw [List.take_of_length_le (by omega:d.length≤m)] at h5;have hxl:r.getD m 0<4294967296:=As h2 m;have hxe:r.getD m 0=p.getD m 0:=Ec h3;rw [hxe] at hxl;refine ⟨by simp;omega,Cn h2 hy2,?_⟩;rw [e1,e3,Nat.pow_succ];generalize p.getD m 0=x at *;generalize 4294967296 ^ m=P at *;rcases Nat.lt_or_ge (x+c) 4294967296 with h|h
 ·left
  have:y=x+c:=by omega
  rw [this,Nat.mul_add];omega
 ·right
  have:y+4294967296=x+c:=by omega
  have m1:P*(y+4294967296)=P*(x+c):=by rw [this]
  rw [Nat.mul_add,Nat.mul_add] at m1;omega
theorem Acp {P D g M A B:Nat}(hneg:P+M=A+g*D)(hlt:P<g*D)(hg:g≤P/D+1)(hD:0<D)(hr:B<M)(h:B=A+D∨B+M=A+D):g-1=P/D∧B=P%D:=by
 have e:=Nat.div_add_mod P D;have hm:=Nat.mod_lt P hD;generalize P/D=q at *;generalize P%D=r at *
 have hgq:q<g:=by
  rcases Nat.lt_or_ge q g with h1|h1
  ·exact h1
  ·have:=Nat.mul_le_mul_right D h1
   rw [Nat.mul_comm q D] at this;omega
 obtain rfl:g=q+1:=by omega
 refine ⟨by omega,?_⟩;rw [Nat.add_mul,Nat.one_mul,Nat.mul_comm q D] at hneg;rcases h with h|h
 ·omega
 ·omega
theorem Abs {P D g A:Nat}(h:P=A+g*D)(hq:P/D≤g)(hD:0<D):g=P/D∧A=P%D:=by
 have e:=Nat.div_add_mod P D;have hm:=Nat.mod_lt P hD;have h1:g≤P/D:=by rw [Nat.le_div_iff_mul_le hD];omega
 have h2:g=P/D:=Nat.le_antisymm h1 hq;refine ⟨h2,?_⟩;rw [←h2,Nat.mul_comm] at e;omega
def Kf (l:List Nat)(n k:Nat)(r:List Nat):Prop:=
 r.length=l.length∧OkL r∧r.drop k=l.drop k∧val (r.take k)=val l/2 ^ n%4294967296 ^ k
theorem Or (l:List Nat)(n:Nat)(h:OkL l):Kf l n 0 l:=⟨rfl,h,rfl,by simp [val,Nat.mod_one]⟩
theorem Td (l:List Nat)(n k:Nat)(hn:n<32)(hk:k<l.length):val l/2 ^ n/4294967296 ^ k%4294967296=(l.getD (k+1) 0*4294967296+l.getD k 0)/2 ^ n%4294967296∨¬OkL l:=by
 by_cases ok:OkL l
 ·left
  have h1:=Ea l k;have ht:(l.take k).length=k:=by rw [List.length_take];omega
  rw [ht] at h1;have hlt:=Cs (Cf ok k);rw [ht] at hlt
  have e1:val l/4294967296 ^ k=val (l.drop k):=by
   rw [h1,Nat.add_mul_div_left _ _ (by exact Nat.pow_pos (by omega)),Nat.div_eq_of_lt hlt,Nat.zero_add]
  rw [Nat.div_div_eq_div_mul,Nat.mul_comm,←Nat.div_div_eq_div_mul,e1,Ei l k hk]
  obtain ⟨rest,hr⟩:∃ rest,val (l.drop (k+1))=l.getD (k+1) 0+4294967296*rest:=by
   by_cases h2:k+1<l.length
   ·exact ⟨_,Ei l (k+1) h2⟩
   ·refine ⟨0,?_⟩
    rw [List.drop_of_length_le (by omega)];simp [val,List.getD_eq_getElem?_getD,List.getElem?_eq_none (show l.length≤k+1 by omega)]
  rw [hr];have hp:(4294967296:Nat)=2 ^ n*2 ^ (32-n):=by rw [←Nat.pow_add,show n+(32-n)=32 by omega]
  have e2:l.getD k 0+4294967296*(l.getD (k+1) 0+4294967296*rest)=(l.getD (k+1) 0*4294967296+l.getD k 0)+2 ^ n*(4294967296*(2 ^ (32-n)*rest)):=by
   have:2 ^ n*(4294967296*(2 ^ (32-n)*rest))=(2 ^ n*2 ^ (32-n))*4294967296*rest:=by grind
   rw [this,←hp];omega
  rw [e2,Nat.add_mul_div_left _ _ (Nat.two_pow_pos n),Nat.add_mul_mod_self_left]
 ·exact .inr ok
theorem Qu {l r:List Nat}{n k:Nat}(h:Kf l n k r)(hk:k<l.length)(hl:OkL l)(hn:n<32) :
  Kf l n (k+1) (r.set k ((l.getD (k+1) 0*4294967296+l.getD k 0)/2 ^ n%4294967296)):=by
 obtain ⟨h1,h2,h3,h4⟩:=h;have e3:=Bs r k ((l.getD (k+1) 0*4294967296+l.getD k 0)/2 ^ n%4294967296) (by omega);refine ⟨by simpa using h1,Cn h2 (Nat.mod_lt _ (by omega)),?_,?_⟩
 ·rw [List.drop_set_of_lt (by omega)]
  have:=congrArg (List.drop 1) h3;simpa [List.drop_drop,Nat.add_comm] using this
 ·rcases Td l n k hn hk with h5|h5
  ·rw [e3,h4,←h5,Nat.pow_succ,Nat.mod_mul]
  ·exact absurd hl h5
theorem Te {l r:List Nat}{n:Nat}(h:Kf l n l.length r)(hl:OkL l):r.length=l.length∧OkL r∧val r=val l/2 ^ n:=by
 obtain ⟨h1,h2,h3,h4⟩:=h;refine ⟨h1,h2,?_⟩;rw [List.take_of_length_le (by omega)] at h4;rw [h4,Nat.mod_eq_of_lt (Nat.lt_of_le_of_lt (Nat.div_le_self _ _) (Cs hl))]
theorem Aab {l:List Nat}{k:Nat}(hl:OkL l)(h:l.length=k+3):∃ r,r<4294967296 ^ k∧val l=((l.getD (k+2) 0*4294967296+l.getD (k+1) 0)*4294967296+l.getD k 0)*4294967296 ^ k+r:=by
 have e1:=Ao l (k+2) (by omega);have e2:=Ao l (k+1) (by omega);have e3:=Ao l k (by omega);rw [List.take_of_length_le (by omega:l.length≤k+2+1)] at e1;have hr:=Cs (Cf hl k);have ht:(l.take k).length=k:=by rw [List.length_take];omega
 rw [ht] at hr;refine ⟨val (l.take k),hr,?_⟩;rw [e1,e2,e3,Nat.pow_succ,Nat.pow_succ]
 grind
theorem Aac {l:List Nat}{k:Nat}(hl:OkL l)(h:l.length=k+2):∃ r,r<4294967296 ^ k∧val l=(l.getD (k+1) 0*4294967296+l.getD k 0)*4294967296 ^ k+r:=by
 have e2:=Ao l (k+1) (by omega);have e3:=Ao l k (by omega);rw [List.take_of_length_le (by omega:l.length≤k+1+1)] at e2;have hr:=Cs (Cf hl k);have ht:(l.take k).length=k:=by rw [List.length_take];omega
 rw [ht] at hr;refine ⟨val (l.take k),hr,?_⟩;rw [e2,e3,Nat.pow_succ]
 grind
theorem Ig {l:List Nat}{i m j:Nat}(h:j<m+1):(Di l i m).getD j 0=l.getD (i+j) 0:=by
 unfold Di;simp [List.getD_eq_getElem?_getD,h]
def Kg (P D v1 hd g r:Nat):Prop:=P/D≤g∧g*v1+r=hd
def Vk (P D g:Nat):Prop:=P/D≤g∧g≤P/D+1∧g<4294967296
def Kh (P D v1 v2 hd u2:Nat):Prop:=0<D∧0<v1∧P<4294967296*D∧∃ W Pr Dr,P=(hd*4294967296+u2)*W+Pr∧Pr<W∧D=(v1*4294967296+v2)*W+Dr∧Dr<W∧u2<4294967296∧v2<4294967296
theorem Yz {l dl:List Nat}{i m D:Nat}(okl:OkL l)(okd:OkL dl)(hm:2≤m)(hil:i+(m+1)≤l.length)(hdl:dl.length=m)(hD:val dl=D)(hv:0<dl.getD (m-1) 0)(hD0:0<D)(hP:val (Di l i m)<4294967296*D) :
  Kh (val (Di l i m)) D (dl.getD (m-1) 0) (dl.getD (m-2) 0) (l.getD (i+m) 0*4294967296+l.getD (i+(m-1)) 0) (l.getD (i+(m-2)) 0):=by
 obtain ⟨k,rfl⟩:∃ k,m=k+2:=⟨m-2,by omega⟩
 obtain ⟨Pr,h1,h2⟩:=Aab (Rl okl i (k+2)) (Iz hil);obtain ⟨Dr,h3,h4⟩:=Aac okd hdl;rw [Ig (by omega),Ig (by omega),Ig (by omega)] at h2;rw [show k+2-1=k+1 by omega,Nat.add_sub_cancel] at *;exact ⟨hD0,hv,hP,_,Pr,Dr,h2,h1,by rw [←hD];exact h4,h3,As okl _,As okd _⟩
theorem Pu {P D v1 v2 hd u2:Nat}(h:Kh P D v1 v2 hd u2):Kg P D v1 hd (hd/v1) (hd%v1):=by
 obtain ⟨h0,hv,hP,W,Pr,Dr,e1,h1,e2,h2,h3,h4⟩:=h;refine ⟨Sc (C:=4294967296*W) hv ?_ ?_,by rw [Nat.mul_comm];exact Nat.div_add_mod _ _⟩
 ·rw [e1]
  have:=Nat.mul_le_mul_right W (show u2+1≤4294967296 from h3)
  grind
 ·rw [e2]
  grind
theorem Jf {P D v1 v2 hd u2:Nat}(h:Kh P D v1 v2 hd u2):hd<(v1+1)*4294967296:=by
 obtain ⟨h0,hv,hP,W,Pr,Dr,e1,h1,e2,h2,h3,h4⟩:=h
 have hD:D<(v1*4294967296+4294967296)*W:=by
  have:=Nat.mul_le_mul_right W (show v2+1≤4294967296 from h4)
  grind
 have h5:hd*4294967296*W<4294967296*((v1*4294967296+4294967296)*W):=by
  have:=Nat.mul_lt_mul_of_pos_left hD (show 0<4294967296 by omega)
  grind
 have h6:(hd*4294967296)*W<(4294967296*(v1*4294967296+4294967296))*W:=by rw [Nat.mul_assoc 4294967296];exact h5
 have:=Nat.lt_of_mul_lt_mul_right h6;omega
theorem Mi {P D v1 v2 hd u2 g r:Nat}(h:Kh P D v1 v2 hd u2)(hi:Kg P D v1 hd g r)(hc:4294967296≤g∨r*4294967296+u2<g*v2):1≤g∧Kg P D v1 hd (g-1) (r+v1):=by
 obtain ⟨h0,hv,hP,W,Pr,Dr,e1,h1,e2,h2,h3,h4⟩:=h
 have:=Yy (P:=P) (D:=D) (v1:=v1) (v2:=v2) (hd:=hd) (u2:=u2) (W:=W) (B:=4294967296) (g:=g) (r:=r) (by rw [Nat.div_lt_iff_lt_mul h0];exact hP) (by omega)
  (by rw [e1,Nat.add_mul _ 1,Nat.one_mul];omega) (by omega) hi.1 hi.2 hc
 exact ⟨this.1,this.2.1,this.2.2⟩
theorem Mh {P D v1 v2 hd u2 g r:Nat}(h:Kh P D v1 v2 hd u2)(hi:Kg P D v1 hd g r)(hg:g<4294967296)(hc:g*v2≤r*4294967296+u2):Vk P D g:=by
 obtain ⟨h0,hv,hP,W,Pr,Dr,e1,h1,e2,h2,h3,h4⟩:=h;exact ⟨hi.1,Yx h0 (by omega) e2 h2 hv hi.2 hg hc,hg⟩
theorem Jh {P D v1 v2 hd u2 g r:Nat}(h:Kh P D v1 v2 hd u2)(hi:Kg P D v1 hd g r)(hr:4294967296≤r):Vk P D g:=by
 have hs:=Jf h
 have hg:g<4294967296:=by
  have h1:=hi.2;have hv:=h.2.1;have:g*v1<4294967296*v1:=by rw [Nat.add_mul,Nat.mul_comm v1] at hs;omega
  exact Nat.lt_of_mul_lt_mul_right this
 refine Mh h hi hg ?_;obtain ⟨h0,hv,hP,W,Pr,Dr,e1,h1,e2,h2,h3,h4⟩:=h;have:=Nat.mul_le_mul (Nat.le_of_lt hg) (Nat.le_of_lt h4);have:=Nat.mul_le_mul_right 4294967296 hr;omega
theorem Tu {d rd:List Nat}{m n:Nat}(hd:OkL d)(hdl:d.length=m)(hm:2≤m)(hn:n<32)(htop:0<d.getD (m-1) 0)(hb:d.getD (m-1) 0*2 ^ n<4294967296)(hr:OkL rd)(hrl:rd.length=m+1)(hv:val rd=val d*2 ^ n) :
  val d*2 ^ n<4294967296 ^ m∧4294967296 ^ (m-1)*2 ^ n≤val d*2 ^ n∧val (rd.take m)=val d*2 ^ n∧0<(rd.take m).getD (m-1) 0∧OkL (rd.take m)∧(rd.take m).length=m:=by
 obtain ⟨k,rfl⟩:∃ k,m=k+1:=⟨m-1,by omega⟩
 rw [Nat.add_sub_cancel] at *;have e1:=Ao d k (by omega);rw [List.take_of_length_le (by omega)] at e1;have h1:=Cs (Cf hd k);have ht:(d.take k).length=k:=by rw [List.length_take];omega
 rw [ht] at h1;have hp:(4294967296:Nat)=2 ^ n*2 ^ (32-n):=by rw [←Nat.pow_add,show n+(32-n)=32 by omega]
 have hpp:0<2 ^ n:=Nat.two_pow_pos n
 have h2:(d.getD k 0+1)*2 ^ n≤4294967296:=by
  rw [hp,Nat.mul_comm (2 ^ n)] at hb;have:=Nat.lt_of_mul_lt_mul_right hb;have:=Nat.mul_le_mul_right (2 ^ n) this;rw [Nat.mul_comm (2 ^ (32-n)),←hp] at this;exact this
 generalize d.getD k 0=tp at *;have h3:val d<4294967296 ^ k*(tp+1):=by rw [Nat.mul_add,Nat.mul_one];omega
 have h4:val d*2 ^ n<4294967296 ^ (k+1):=by
  have:=Nat.mul_lt_mul_of_pos_right h3 hpp;rw [Nat.mul_assoc] at this;have h5:=Nat.mul_le_mul_left (4294967296 ^ k) h2;rw [Nat.pow_succ];omega
 have h5:4294967296 ^ k*2 ^ n≤val d*2 ^ n:=by
  refine Nat.mul_le_mul_right _ ?_;have:=Nat.mul_le_mul_left (4294967296 ^ k) (show 1≤tp from htop);omega
 have hl:(rd.take (k+1)).length=k+1:=by rw [List.length_take];omega
 have e2:=Ea rd (k+1);rw [hl,hv] at e2
 have h6:val (rd.take (k+1))=val d*2 ^ n:=by
  rcases Nat.eq_zero_or_pos (val (rd.drop (k+1))) with h0|h0
  ·rw [h0] at e2;omega
  ·have:=Nat.mul_le_mul_left (4294967296 ^ (k+1)) h0
   omega
 refine ⟨h4,h5,h6,?_,Cf hr _,hl⟩;have e3:=Ao (rd.take (k+1)) k (by omega);rw [List.take_of_length_le (by omega:(rd.take (k+1)).length≤k+1)] at e3;have h7:=Cs (Cf (Cf hr (k+1)) k);have ht2:((rd.take (k+1)).take k).length=k:=by rw [List.length_take];omega
 rw [ht2] at h7;rcases Nat.eq_zero_or_pos ((rd.take (k+1)).getD k 0) with h0|h0
 ·rw [h0,Nat.mul_zero,Nat.add_zero,h6] at e3
  have:=Nat.mul_le_mul_left (4294967296 ^ k) hpp;omega
 ·exact h0
theorem Aec {m L nl nq a d n:Nat}{l q:List Nat}(h:DivI m (d*2 ^ n) L nl nq 0 l q)(hL:L=a*2 ^ n)(hm:m≤nl) :
  val q=a/d∧val (l.take m)/2 ^ n=a%d∧(l.take m).length=m∧OkL (l.take m):=by
 obtain ⟨h1,h2,h3,h4,h5,h6,h7,h8⟩:=h;rw [List.drop_zero] at h6;have hp:0<2 ^ n:=Nat.two_pow_pos n;have ht:(l.take m).length=m:=by rw [List.length_take];omega
 have e:=Ea l m;rw [ht] at e
 have e2:val (l.take m)=val l:=by
  rcases Nat.eq_zero_or_pos (val (l.drop m)) with h0|h0
  ·rw [h0] at e;omega
  ·have:=Nat.mul_le_mul_left (4294967296 ^ m) h0
   omega
 have hd0:0<d*2 ^ n:=by omega
 have q1:val q=L/(d*2 ^ n):=by
  rw [←h5,Nat.add_mul_div_left _ _ hd0,Nat.div_eq_of_lt h6,Nat.zero_add]
 have r1:val l=L%(d*2 ^ n):=by
  rw [←h5,Nat.add_mul_mod_self_left,Nat.mod_eq_of_lt h6]
 refine ⟨?_,?_,ht,Cf h3 m⟩
 ·rw [q1,hL,Nat.mul_div_mul_right _ _ hp]
 ·rw [e2,r1,hL,Nat.mul_mod_mul_right,Nat.mul_div_cancel _ hp]
theorem Uw {A rl:List Nat}{m n la D:Nat}(hA:OkL A)(hla:A.length=la)(hml:m≤la)(hm:1≤m)(hr:OkL rl)(hrl:rl.length=la+1)(hv:val rl=val A*2 ^ n)(hD:D<4294967296 ^ m)(hD2:4294967296 ^ (m-1)*2 ^ n≤D) :
  DivI m D (val A*2 ^ n) (la+1) (la+1-m) (la+1-m) rl (List.replicate (la+1-m) 0):=by
 refine ⟨hrl,by simp,hr,fun x hx=>by rw [List.eq_of_mem_replicate hx];omega,by rw [Hz,hv,Nat.mul_zero,Nat.add_zero],?_,fun j hj=>by simp [List.getD_eq_getElem?_getD,hj],hD⟩;have e:=Ea rl (la+1-m);have ht:(rl.take (la+1-m)).length=la+1-m:=by rw [List.length_take];omega
 rw [ht,hv] at e;have h1:=Cs hA;rw [hla] at h1;have h2:=Nat.mul_lt_mul_of_pos_right h1 (Nat.two_pow_pos n)
 have h3:4294967296 ^ la*2 ^ n=4294967296 ^ (la+1-m)*(4294967296 ^ (m-1)*2 ^ n):=by
  rw [←Nat.mul_assoc,←Nat.pow_add,show la+1-m+(m-1)=la by omega]
 rw [h3] at h2;have h4:4294967296 ^ (la+1-m)*val (rl.drop (la+1-m))<4294967296 ^ (la+1-m)*(4294967296 ^ (m-1)*2 ^ n):=by omega
 have:=Nat.lt_of_mul_lt_mul_left h4;omega
end Go.Proofs.YtlknpnommcohkaaGreatDoor
namespace Go.Proofs
open Go.Shelf
def Tryz.lays169_ren:Go.Shelf.Ren:=⟨fun|169=>30|n=>n,fun|70=>61|9=>9|0=>0|72=>64|37=>62|127=>115|3=>3|5=>5|n=>n,fun|n=>n⟩
theorem Tryz.lays169:Go.Proofs.Lays.n169 Tryz.prog Tryz.lays169_ren:={
 mixed:=by kernel_rfl
 f169:=Tryz.func30.trans (congrArg some (by kernel_rfl))
 t0:=Tryz.underlying0
 a0:=Tryz.isAgg0
 z0:=Tryz.sizeOf0
 v0:=Tryz.zeroValue0
 t3:=Tryz.underlying3
 a3:=Tryz.isAgg3
 z3:=Tryz.sizeOf3
 v3:=Tryz.zeroValue3
 t9:=Tryz.underlying9
 a9:=Tryz.isAgg9
 z9:=Tryz.sizeOf9
 v9:=Tryz.zeroValue9
 t37:=Tryz.underlying62
 a37:=Tryz.isAgg62
 z37:=Tryz.sizeOf62
 v37:=Tryz.zeroValue62
 t70:=Tryz.underlying61
 a70:=Tryz.isAgg61
 z70:=Tryz.sizeOf61
 v70:=Tryz.zeroValue61
 t72:=Tryz.underlying64
 a72:=Tryz.isAgg64
 z72:=Tryz.sizeOf64
 v72:=Tryz.zeroValue64
 t127:=Tryz.underlying115
 a127:=Tryz.isAgg115
 z127:=Tryz.sizeOf115
 v127:=Tryz.zeroValue115 }
theorem Tryz.Builder_Extra_169:Builder.Extra Tryz.prog Tryz.lays169_ren:={
 sizeBuilder:=by kernel_rfl
 liesBuilder:=by kernel_rfl
 t5:=Tryz.underlying5
 a5:=Tryz.isAgg5
 z5:=Tryz.sizeOf5
 v5:=Tryz.zeroValue5
 infoByte:=by kernel_rfl
 cellsByte:=by kernel_rfl
 sizeByte:=by kernel_rfl
 neB5:=by decide }
open Go.RowKit in
theorem Tryz.Builder_String (B b:Nat)(l:List UInt8)(w:World)(h:Lib.IsBuilder 64 5 B b (Lib.byteCells l) w)(h0:l≠[]) :
  Calls Tryz.prog 30 #[.pointer (some ⟨b,0,none⟩)] w fun e w'=>e=.returned (.string ⟨l.toArray⟩)∧Below B w w':=Any.Builder_String Tryz.lays169 Tryz.Builder_Extra_169 B b l w h h0
def Tryz.lays160_ren:Go.Shelf.Ren:=⟨fun|160=>249|232=>288|231=>287|227=>289|234=>291|233=>290|236=>293|235=>292|228=>310|271=>312|151=>311|197=>193|120=>319|152=>318|260=>242|137=>322|119=>323|224=>245|225=>244|217=>243|266=>284|n=>n,fun|9=>9|4=>4|3=>3|5=>5|117=>273|116=>272|0=>0|124=>276|21=>21|105=>201|46=>196|119=>265|139=>268|138=>267|n=>n,fun|3=>5|4=>6|n=>n⟩
theorem Tryz.lays160:Go.Proofs.Lays.n160 Tryz.prog Tryz.lays160_ren:={
 mixed:=by kernel_rfl
 f119:=Tryz.func323.trans (congrArg some (by kernel_rfl))
 f120:=Tryz.func319.trans (congrArg some (by kernel_rfl))
 f137:=Tryz.func322.trans (congrArg some (by kernel_rfl))
 f151:=Tryz.func311.trans (congrArg some (by kernel_rfl))
 f152:=Tryz.func318.trans (congrArg some (by kernel_rfl))
 f160:=Tryz.func249.trans (congrArg some (by kernel_rfl))
 f197:=Tryz.func193.trans (congrArg some (by kernel_rfl))
 f217:=Tryz.func243.trans (congrArg some (by kernel_rfl))
 f224:=Tryz.func245.trans (congrArg some (by kernel_rfl))
 f225:=Tryz.func244.trans (congrArg some (by kernel_rfl))
 f227:=Tryz.func289.trans (congrArg some (by kernel_rfl))
 f228:=Tryz.func310.trans (congrArg some (by kernel_rfl))
 f231:=Tryz.func287.trans (congrArg some (by kernel_rfl))
 f232:=Tryz.func288.trans (congrArg some (by kernel_rfl))
 f233:=Tryz.func290.trans (congrArg some (by kernel_rfl))
 f234:=Tryz.func291.trans (congrArg some (by kernel_rfl))
 f235:=Tryz.func292.trans (congrArg some (by kernel_rfl))
 f236:=Tryz.func293.trans (congrArg some (by kernel_rfl))
 f260:=Tryz.func242.trans (congrArg some (by kernel_rfl))
 f266:=Tryz.func284.trans (congrArg some (by kernel_rfl))
 f271:=Tryz.func312.trans (congrArg some (by kernel_rfl))
 t0:=Tryz.underlying0
 a0:=Tryz.isAgg0
 z0:=Tryz.sizeOf0
 v0:=Tryz.zeroValue0
 t3:=Tryz.underlying3
 a3:=Tryz.isAgg3
 z3:=Tryz.sizeOf3
 v3:=Tryz.zeroValue3
 t4:=Tryz.underlying4
 a4:=Tryz.isAgg4
 z4:=Tryz.sizeOf4
 v4:=Tryz.zeroValue4
 t5:=Tryz.underlying5
 a5:=Tryz.isAgg5
 z5:=Tryz.sizeOf5
 v5:=Tryz.zeroValue5
 t9:=Tryz.underlying9
 a9:=Tryz.isAgg9
 z9:=Tryz.sizeOf9
 v9:=Tryz.zeroValue9
 t21:=Tryz.underlying21
 a21:=Tryz.isAgg21
 z21:=Tryz.sizeOf21
 v21:=Tryz.zeroValue21
 t46:=Tryz.underlying196
 a46:=Tryz.isAgg196
 z46:=Tryz.sizeOf196
 v46:=Tryz.zeroValue196
 t105:=Tryz.underlying201
 a105:=Tryz.isAgg201
 z105:=Tryz.sizeOf201
 v105:=Tryz.zeroValue201
 t116:=Tryz.underlying272
 a116:=Tryz.isAgg272
 z116:=Tryz.sizeOf272
 t117:=Tryz.underlying273
 a117:=Tryz.isAgg273
 z117:=Tryz.sizeOf273
 v117:=Tryz.zeroValue273
 t119:=Tryz.underlying265
 a119:=Tryz.isAgg265
 z119:=Tryz.sizeOf265
 t124:=Tryz.underlying276
 a124:=Tryz.isAgg276
 z124:=Tryz.sizeOf276
 v124:=Tryz.zeroValue276
 t138:=Tryz.underlying267
 a138:=Tryz.isAgg267
 z138:=Tryz.sizeOf267
 v138:=Tryz.zeroValue267
 t139:=Tryz.underlying268
 a139:=Tryz.isAgg268
 z139:=Tryz.sizeOf268
 v139:=Tryz.zeroValue268
 g3:=by kernel_rfl
 g4:=by kernel_rfl }
def Tryz.lays128_ren:Go.Shelf.Ren:=⟨fun|128=>317|n=>n,fun|51=>150|3=>3|4=>4|46=>196|5=>5|9=>9|n=>n,fun|n=>n⟩
def Tryz.lays133_ren:Go.Shelf.Ren:=⟨fun|133=>304|128=>317|n=>n,fun|51=>150|3=>3|4=>4|46=>196|5=>5|9=>9|n=>n,fun|n=>n⟩
theorem Tryz.lays133:Go.Proofs.Lays.n133 Tryz.prog Tryz.lays133_ren:={
 mixed:=by kernel_rfl
 f128:=Tryz.func317.trans (congrArg some (by kernel_rfl))
 f133:=Tryz.func304.trans (congrArg some (by kernel_rfl))
 t3:=Tryz.underlying3
 a3:=Tryz.isAgg3
 z3:=Tryz.sizeOf3
 v3:=Tryz.zeroValue3
 t4:=Tryz.underlying4
 a4:=Tryz.isAgg4
 z4:=Tryz.sizeOf4
 v4:=Tryz.zeroValue4
 t5:=Tryz.underlying5
 a5:=Tryz.isAgg5
 z5:=Tryz.sizeOf5
 v5:=Tryz.zeroValue5
 t9:=Tryz.underlying9
 a9:=Tryz.isAgg9
 z9:=Tryz.sizeOf9
 v9:=Tryz.zeroValue9
 t46:=Tryz.underlying196
 a46:=Tryz.isAgg196
 z46:=Tryz.sizeOf196
 v46:=Tryz.zeroValue196
 t51:=Tryz.underlying150
 a51:=Tryz.isAgg150
 z51:=Tryz.sizeOf150
 v51:=Tryz.zeroValue150 }
theorem Tryz.bits_LeadingZeros32 (x:Int)(w:World)(h0:0≤x)(h1:x≤4294967295) :
  Calls Tryz.prog 304 #[.int .u32 x] w fun e w'=>e=.returned (.int .i64 (32-(Lib.bitLen x.toNat:Int)))∧w'=w:=Any.bits_LeadingZeros32 Tryz.lays133 x w h0 h1
def Tryz.lays103_ren:Go.Shelf.Ren:=⟨fun|103=>248|210=>286|206=>309|n=>n,fun|9=>9|4=>4|24=>243|3=>3|n=>n,fun|n=>n⟩
theorem Tryz.lays103:Go.Proofs.Lays.n103 Tryz.prog Tryz.lays103_ren:={
 mixed:=by kernel_rfl
 f103:=Tryz.func248.trans (congrArg some (by kernel_rfl))
 f206:=Tryz.func309.trans (congrArg some (by kernel_rfl))
 f210:=Tryz.func286.trans (congrArg some (by kernel_rfl))
 t3:=Tryz.underlying3
 a3:=Tryz.isAgg3
 z3:=Tryz.sizeOf3
 v3:=Tryz.zeroValue3
 t4:=Tryz.underlying4
 a4:=Tryz.isAgg4
 z4:=Tryz.sizeOf4
 v4:=Tryz.zeroValue4
 t9:=Tryz.underlying9
 a9:=Tryz.isAgg9
 z9:=Tryz.sizeOf9
 v9:=Tryz.zeroValue9
 t24:=Tryz.underlying243
 a24:=Tryz.isAgg243
 z24:=Tryz.sizeOf243
 v24:=Tryz.zeroValue243 }
open Go.RowKit in
theorem Tryz.strings_CutPrefix (s p:ByteArray)(w:World) :
  Calls Tryz.prog 248 #[.string s,.string p] w fun e w'=>e=.returned (.tuple #[.string ⟨(Lib.trimPrefix s.data.toList p.data.toList).toArray⟩,.bool (Lib.hasPrefix s.data.toList p.data.toList)])∧w'=w:=Any.strings_CutPrefix Tryz.lays103 s p w
def Tryz.lays172_ren:Go.Shelf.Ren:=⟨fun|172=>86|244=>141|245=>142|247=>201|279=>202|280=>203|281=>204|282=>205|287=>251|316=>252|171=>26|205=>253|321=>296|322=>297|243=>70|246=>120|283=>175|284=>176|285=>177|286=>178|129=>229|317=>228|318=>230|319=>231|320=>232|337=>279|338=>280|n=>n,fun|9=>9|3=>3|75=>110|76=>112|4=>4|5=>5|167=>210|37=>62|0=>0|85=>211|2=>2|168=>213|53=>189|175=>246|46=>196|210=>250|127=>115|145=>280|143=>278|21=>21|171=>188|173=>192|212=>232|51=>150|20=>20|213=>233|232=>286|233=>287|80=>77|n=>n,fun|15=>2|16=>3|17=>0|18=>7|19=>8|n=>n⟩
theorem Tryz.lays172:Go.Proofs.Lays.n172 Tryz.prog Tryz.lays172_ren:={
 mixed:=by kernel_rfl
 f129:=Tryz.func229.trans (congrArg some (by kernel_rfl))
 f171:=Tryz.func26.trans (congrArg some (by kernel_rfl))
 f172:=Tryz.func86.trans (congrArg some (by kernel_rfl))
 f205:=Tryz.func253.trans (congrArg some (by kernel_rfl))
 f243:=Tryz.func70.trans (congrArg some (by kernel_rfl))
 f244:=Tryz.func141.trans (congrArg some (by kernel_rfl))
 f245:=Tryz.func142.trans (congrArg some (by kernel_rfl))
 f246:=Tryz.func120.trans (congrArg some (by kernel_rfl))
 f247:=Tryz.func201.trans (congrArg some (by kernel_rfl))
 f279:=Tryz.func202.trans (congrArg some (by kernel_rfl))
 f280:=Tryz.func203.trans (congrArg some (by kernel_rfl))
 f281:=Tryz.func204.trans (congrArg some (by kernel_rfl))
 f282:=Tryz.func205.trans (congrArg some (by kernel_rfl))
 f283:=Tryz.func175.trans (congrArg some (by kernel_rfl))
 f284:=Tryz.func176.trans (congrArg some (by kernel_rfl))
 f285:=Tryz.func177.trans (congrArg some (by kernel_rfl))
 f286:=Tryz.func178.trans (congrArg some (by kernel_rfl))
 f287:=Tryz.func251.trans (congrArg some (by kernel_rfl))
 f316:=Tryz.func252.trans (congrArg some (by kernel_rfl))
 f317:=Tryz.func228.trans (congrArg some (by kernel_rfl))
 f318:=Tryz.func230.trans (congrArg some (by kernel_rfl))
 f319:=Tryz.func231.trans (congrArg some (by kernel_rfl))
 f320:=Tryz.func232.trans (congrArg some (by kernel_rfl))
 f321:=Tryz.func296.trans (congrArg some (by kernel_rfl))
 f322:=Tryz.func297.trans (congrArg some (by kernel_rfl))
 f337:=Tryz.func279.trans (congrArg some (by kernel_rfl))
 f338:=Tryz.func280.trans (congrArg some (by kernel_rfl))
 t0:=Tryz.underlying0
 a0:=Tryz.isAgg0
 z0:=Tryz.sizeOf0
 v0:=Tryz.zeroValue0
 t2:=Tryz.underlying2
 a2:=Tryz.isAgg2
 z2:=Tryz.sizeOf2
 v2:=Tryz.zeroValue2
 t3:=Tryz.underlying3
 a3:=Tryz.isAgg3
 z3:=Tryz.sizeOf3
 v3:=Tryz.zeroValue3
 t4:=Tryz.underlying4
 a4:=Tryz.isAgg4
 z4:=Tryz.sizeOf4
 v4:=Tryz.zeroValue4
 t5:=Tryz.underlying5
 a5:=Tryz.isAgg5
 z5:=Tryz.sizeOf5
 v5:=Tryz.zeroValue5
 t9:=Tryz.underlying9
 a9:=Tryz.isAgg9
 z9:=Tryz.sizeOf9
 v9:=Tryz.zeroValue9
 t20:=Tryz.underlying20
 a20:=Tryz.isAgg20
 z20:=Tryz.sizeOf20
 v20:=Tryz.zeroValue20
 t21:=Tryz.underlying21
 a21:=Tryz.isAgg21
 z21:=Tryz.sizeOf21
 v21:=Tryz.zeroValue21
 t37:=Tryz.underlying62
 a37:=Tryz.isAgg62
 z37:=Tryz.sizeOf62
 v37:=Tryz.zeroValue62
 t46:=Tryz.underlying196
 a46:=Tryz.isAgg196
 z46:=Tryz.sizeOf196
 v46:=Tryz.zeroValue196
 t51:=Tryz.underlying150
 a51:=Tryz.isAgg150
 z51:=Tryz.sizeOf150
 v51:=Tryz.zeroValue150
 t53:=Tryz.underlying189
 a53:=Tryz.isAgg189
 z53:=Tryz.sizeOf189
 v53:=Tryz.zeroValue189
 t75:=Tryz.underlying110
 a75:=Tryz.isAgg110
 z75:=Tryz.sizeOf110
 v75:=Tryz.zeroValue110
 t76:=Tryz.underlying112
 a76:=Tryz.isAgg112
 z76:=Tryz.sizeOf112
 v76:=Tryz.zeroValue112
 t85:=Tryz.underlying211
 a85:=Tryz.isAgg211
 z85:=Tryz.sizeOf211
 v85:=Tryz.zeroValue211
 t127:=Tryz.underlying115
 a127:=Tryz.isAgg115
 z127:=Tryz.sizeOf115
 v127:=Tryz.zeroValue115
 t143:=Tryz.underlying278
 a143:=Tryz.isAgg278
 z143:=Tryz.sizeOf278
 v143:=Tryz.zeroValue278
 t145:=Tryz.underlying280
 a145:=Tryz.isAgg280
 z145:=Tryz.sizeOf280
 v145:=Tryz.zeroValue280
 t167:=Tryz.underlying210
 a167:=Tryz.isAgg210
 z167:=Tryz.sizeOf210
 v167:=Tryz.zeroValue210
 t168:=Tryz.underlying213
 a168:=Tryz.isAgg213
 z168:=Tryz.sizeOf213
 v168:=Tryz.zeroValue213
 t171:=Tryz.underlying188
 a171:=Tryz.isAgg188
 z171:=Tryz.sizeOf188
 v171:=Tryz.zeroValue188
 t173:=Tryz.underlying192
 a173:=Tryz.isAgg192
 z173:=Tryz.sizeOf192
 v173:=Tryz.zeroValue192
 t175:=Tryz.underlying246
 a175:=Tryz.isAgg246
 z175:=Tryz.sizeOf246
 v175:=Tryz.zeroValue246
 t210:=Tryz.underlying250
 a210:=Tryz.isAgg250
 z210:=Tryz.sizeOf250
 v210:=Tryz.zeroValue250
 t212:=Tryz.underlying232
 a212:=Tryz.isAgg232
 z212:=Tryz.sizeOf232
 v212:=Tryz.zeroValue232
 t213:=Tryz.underlying233
 a213:=Tryz.isAgg233
 z213:=Tryz.sizeOf233
 t232:=Tryz.underlying286
 a232:=Tryz.isAgg286
 z232:=Tryz.sizeOf286
 v232:=Tryz.zeroValue286
 t233:=Tryz.underlying287
 a233:=Tryz.isAgg287
 z233:=Tryz.sizeOf287
 v233:=Tryz.zeroValue287
 g15:=by kernel_rfl
 g16:=by kernel_rfl
 g17:=by kernel_rfl
 g18:=by kernel_rfl
 g19:=by kernel_rfl }
open Go.RowKit in
theorem Tryz.strconv_Atoi (s:ByteArray)(n:Int)(hl:s.size≤18)(h:Lib.atoi s.data.toList=some n)(w:World) :
  Calls Tryz.prog 86 #[.string s] w fun e w'=>e=.returned (.tuple #[.int .i64 n,.nilIface])∧∃ t,w'=Lib.bytesWorld w 5 t:=Any.strconv_Atoi Tryz.lays172 s n hl h w
def Tryz.laysM246_ren:Go.Shelf.Ren:=⟨fun|246=>120|283=>175|284=>176|285=>177|286=>178|129=>229|317=>228|318=>230|319=>231|320=>232|337=>279|338=>280|n=>n,fun|2=>2|3=>3|9=>9|4=>4|171=>188|0=>0|53=>189|37=>62|5=>5|173=>192|212=>232|51=>150|20=>20|213=>233|46=>196|232=>286|233=>287|n=>n,fun|17=>0|18=>7|19=>8|n=>n⟩
def Tryz.laysM243_ren:Go.Shelf.Ren:=⟨fun|243=>70|246=>120|283=>175|284=>176|285=>177|286=>178|129=>229|317=>228|318=>230|319=>231|320=>232|337=>279|338=>280|n=>n,fun|3=>3|9=>9|2=>2|4=>4|171=>188|0=>0|53=>189|37=>62|5=>5|173=>192|212=>232|51=>150|20=>20|213=>233|46=>196|232=>286|233=>287|n=>n,fun|17=>0|18=>7|19=>8|n=>n⟩
def Tryz.laysM171_ren:Go.Shelf.Ren:=⟨fun|171=>26|243=>70|246=>120|283=>175|284=>176|285=>177|286=>178|129=>229|317=>228|318=>230|319=>231|320=>232|337=>279|338=>280|n=>n,fun|3=>3|9=>9|2=>2|4=>4|171=>188|0=>0|53=>189|37=>62|5=>5|173=>192|212=>232|51=>150|20=>20|213=>233|46=>196|232=>286|233=>287|n=>n,fun|17=>0|18=>7|19=>8|n=>n⟩
theorem Tryz.laysM171:Go.Proofs.LaysM.n171 Tryz.prog Tryz.laysM171_ren:={
 mixed:=by kernel_rfl
 f129:=Tryz.func229.trans (congrArg some (by kernel_rfl))
 f171:=Tryz.func26.trans (congrArg some (by kernel_rfl))
 f243:=Tryz.func70.trans (congrArg some (by kernel_rfl))
 f246:=Tryz.func120.trans (congrArg some (by kernel_rfl))
 f283:=Tryz.func175.trans (congrArg some (by kernel_rfl))
 f284:=Tryz.func176.trans (congrArg some (by kernel_rfl))
 f285:=Tryz.func177.trans (congrArg some (by kernel_rfl))
 f286:=Tryz.func178.trans (congrArg some (by kernel_rfl))
 f317:=Tryz.func228.trans (congrArg some (by kernel_rfl))
 f318:=Tryz.func230.trans (congrArg some (by kernel_rfl))
 f319:=Tryz.func231.trans (congrArg some (by kernel_rfl))
 f320:=Tryz.func232.trans (congrArg some (by kernel_rfl))
 f337:=Tryz.func279.trans (congrArg some (by kernel_rfl))
 f338:=Tryz.func280.trans (congrArg some (by kernel_rfl))
 t0:=Tryz.underlying0
 a0:=Tryz.isAgg0
 z0:=Tryz.sizeOf0
 v0:=Tryz.zeroValue0
 t2:=Tryz.underlying2
 a2:=Tryz.isAgg2
 z2:=Tryz.sizeOf2
 v2:=Tryz.zeroValue2
 t3:=Tryz.underlying3
 a3:=Tryz.isAgg3
 z3:=Tryz.sizeOf3
 v3:=Tryz.zeroValue3
 t4:=Tryz.underlying4
 a4:=Tryz.isAgg4
 z4:=Tryz.sizeOf4
 v4:=Tryz.zeroValue4
 t5:=Tryz.underlying5
 a5:=Tryz.isAgg5
 z5:=Tryz.sizeOf5
 v5:=Tryz.zeroValue5
 t9:=Tryz.underlying9
 a9:=Tryz.isAgg9
 z9:=Tryz.sizeOf9
 v9:=Tryz.zeroValue9
 t20:=Tryz.underlying20
 a20:=Tryz.isAgg20
 z20:=Tryz.sizeOf20
 v20:=Tryz.zeroValue20
 t37:=Tryz.underlying62
 a37:=Tryz.isAgg62
 z37:=Tryz.sizeOf62
 v37:=Tryz.zeroValue62
 t46:=Tryz.underlying196
 a46:=Tryz.isAgg196
 z46:=Tryz.sizeOf196
 v46:=Tryz.zeroValue196
 t51:=Tryz.underlying150
 a51:=Tryz.isAgg150
 z51:=Tryz.sizeOf150
 v51:=Tryz.zeroValue150
 t53:=Tryz.underlying189
 a53:=Tryz.isAgg189
 z53:=Tryz.sizeOf189
 v53:=Tryz.zeroValue189
 t171:=Tryz.underlying188
 a171:=Tryz.isAgg188
 z171:=Tryz.sizeOf188
 v171:=Tryz.zeroValue188
 t173:=Tryz.underlying192
 a173:=Tryz.isAgg192
 z173:=Tryz.sizeOf192
 v173:=Tryz.zeroValue192
 t212:=Tryz.underlying232
 a212:=Tryz.isAgg232
 z212:=Tryz.sizeOf232
 v212:=Tryz.zeroValue232
 t213:=Tryz.underlying233
 a213:=Tryz.isAgg233
 z213:=Tryz.sizeOf233
 t232:=Tryz.underlying286
 a232:=Tryz.isAgg286
 z232:=Tryz.sizeOf286
 v232:=Tryz.zeroValue286
 t233:=Tryz.underlying287
 a233:=Tryz.isAgg287
 z233:=Tryz.sizeOf287
 v233:=Tryz.zeroValue287
 g17:=by kernel_rfl
 g18:=by kernel_rfl
 g19:=by kernel_rfl
 i0:=by kernel_rfl
 i2:=by kernel_rfl
 i3:=by kernel_rfl
 i4:=by kernel_rfl
 i5:=by kernel_rfl
 i9:=by kernel_rfl
 i20:=by kernel_rfl
 i37:=by kernel_rfl
 i46:=by kernel_rfl
 i51:=by kernel_rfl
 i53:=by kernel_rfl
 i171:=by kernel_rfl
 i173:=by kernel_rfl
 i212:=by kernel_rfl
 i232:=by kernel_rfl
 i233:=by kernel_rfl
 m17:=by kernel_rfl
 m18:=by kernel_rfl
 m19:=by kernel_rfl }
open Go.RowKit Go.Sort Go.Lib in
theorem Tryz.strconv_Itoa (n:Int)(h0:-9223372036854775808≤n)(h1:n≤9223372036854775807)(w:World)(htab:Lib.TabIs Tryz.prog w "internal/strconv.uint64pow10" .u64 Lib.pow10Tab) :
  Calls Tryz.prog 26 #[.int .i64 n] w fun e w'=>e=.returned (.string ⟨(Lib.itoa n).toArray⟩)∧∃ k os,w'=grow (w.drewN k) os:=Any.strconv_Itoa Tryz.laysM171 n h0 h1 w htab
def Tryz.lays219_ren:Go.Shelf.Ren:=⟨fun|219=>195|217=>243|225=>244|224=>245|267=>246|266=>284|314=>285|n=>n,fun|9=>9|3=>3|4=>4|5=>5|46=>196|146=>236|51=>150|n=>n,fun|1=>1|n=>n⟩
def Tryz.lays145_ren:Go.Shelf.Ren:=⟨fun|145=>196|220=>247|219=>195|217=>243|225=>244|224=>245|267=>246|266=>284|314=>285|n=>n,fun|9=>9|4=>4|59=>204|3=>3|5=>5|46=>196|146=>236|51=>150|n=>n,fun|1=>1|n=>n⟩
theorem Tryz.lays145:Go.Proofs.Lays.n145 Tryz.prog Tryz.lays145_ren:={
 mixed:=by kernel_rfl
 f145:=Tryz.func196.trans (congrArg some (by kernel_rfl))
 f217:=Tryz.func243.trans (congrArg some (by kernel_rfl))
 f219:=Tryz.func195.trans (congrArg some (by kernel_rfl))
 f220:=Tryz.func247.trans (congrArg some (by kernel_rfl))
 f224:=Tryz.func245.trans (congrArg some (by kernel_rfl))
 f225:=Tryz.func244.trans (congrArg some (by kernel_rfl))
 f266:=Tryz.func284.trans (congrArg some (by kernel_rfl))
 f267:=Tryz.func246.trans (congrArg some (by kernel_rfl))
 f314:=Tryz.func285.trans (congrArg some (by kernel_rfl))
 t3:=Tryz.underlying3
 a3:=Tryz.isAgg3
 z3:=Tryz.sizeOf3
 v3:=Tryz.zeroValue3
 t4:=Tryz.underlying4
 a4:=Tryz.isAgg4
 z4:=Tryz.sizeOf4
 v4:=Tryz.zeroValue4
 t5:=Tryz.underlying5
 a5:=Tryz.isAgg5
 z5:=Tryz.sizeOf5
 v5:=Tryz.zeroValue5
 t9:=Tryz.underlying9
 a9:=Tryz.isAgg9
 z9:=Tryz.sizeOf9
 v9:=Tryz.zeroValue9
 t46:=Tryz.underlying196
 a46:=Tryz.isAgg196
 z46:=Tryz.sizeOf196
 v46:=Tryz.zeroValue196
 t51:=Tryz.underlying150
 a51:=Tryz.isAgg150
 z51:=Tryz.sizeOf150
 v51:=Tryz.zeroValue150
 t59:=Tryz.underlying204
 a59:=Tryz.isAgg204
 z59:=Tryz.sizeOf204
 v59:=Tryz.zeroValue204
 t146:=Tryz.underlying236
 a146:=Tryz.isAgg236
 z146:=Tryz.sizeOf236
 v146:=Tryz.zeroValue236
 g1:=by kernel_rfl }
open Go.RowKit Go.Lib in
theorem Tryz.strings_Cut (s sep:ByteArray)(m:Int)(w:World)(hs:s.size<4294967281)(hm:w.cell? ⟨1,0,none⟩=some (.int .i64 m)) :
  Calls Tryz.prog 196 #[.string s,.string sep] w fun e w'=>e=.returned (.tuple #[.string ⟨(Lib.cut s.data.toList sep.data.toList).1.toArray⟩,.string ⟨(Lib.cut s.data.toList sep.data.toList).2.1.toArray⟩,.bool (Lib.cut s.data.toList sep.data.toList).2.2])∧∃ n,w'=w.drewN n:=Any.strings_Cut Tryz.lays145 s sep m w hs hm
def Tryz.lays221_ren:Go.Shelf.Ren:=⟨fun|221=>84|268=>136|138=>137|143=>138|195=>192|197=>193|218=>194|219=>195|260=>242|217=>243|225=>244|224=>245|267=>246|266=>284|314=>285|n=>n,fun|9=>9|3=>3|31=>79|4=>4|0=>0|105=>201|21=>21|5=>5|46=>196|119=>265|139=>268|138=>267|146=>236|51=>150|n=>n,fun|1=>1|3=>5|4=>6|n=>n⟩
def Tryz.lays146_ren:Go.Shelf.Ren:=⟨fun|146=>33|221=>84|268=>136|138=>137|143=>138|195=>192|197=>193|218=>194|219=>195|260=>242|217=>243|225=>244|224=>245|267=>246|266=>284|314=>285|n=>n,fun|9=>9|31=>79|3=>3|4=>4|0=>0|105=>201|21=>21|5=>5|46=>196|119=>265|139=>268|138=>267|146=>236|51=>150|n=>n,fun|1=>1|3=>5|4=>6|n=>n⟩
theorem Tryz.lays146:Go.Proofs.Lays.n146 Tryz.prog Tryz.lays146_ren:={
 mixed:=by kernel_rfl
 f138:=Tryz.func137.trans (congrArg some (by kernel_rfl))
 f143:=Tryz.func138.trans (congrArg some (by kernel_rfl))
 f146:=Tryz.func33.trans (congrArg some (by kernel_rfl))
 f195:=Tryz.func192.trans (congrArg some (by kernel_rfl))
 f197:=Tryz.func193.trans (congrArg some (by kernel_rfl))
 f217:=Tryz.func243.trans (congrArg some (by kernel_rfl))
 f218:=Tryz.func194.trans (congrArg some (by kernel_rfl))
 f219:=Tryz.func195.trans (congrArg some (by kernel_rfl))
 f221:=Tryz.func84.trans (congrArg some (by kernel_rfl))
 f224:=Tryz.func245.trans (congrArg some (by kernel_rfl))
 f225:=Tryz.func244.trans (congrArg some (by kernel_rfl))
 f260:=Tryz.func242.trans (congrArg some (by kernel_rfl))
 f266:=Tryz.func284.trans (congrArg some (by kernel_rfl))
 f267:=Tryz.func246.trans (congrArg some (by kernel_rfl))
 f268:=Tryz.func136.trans (congrArg some (by kernel_rfl))
 f314:=Tryz.func285.trans (congrArg some (by kernel_rfl))
 t0:=Tryz.underlying0
 a0:=Tryz.isAgg0
 z0:=Tryz.sizeOf0
 v0:=Tryz.zeroValue0
 t3:=Tryz.underlying3
 a3:=Tryz.isAgg3
 z3:=Tryz.sizeOf3
 v3:=Tryz.zeroValue3
 t4:=Tryz.underlying4
 a4:=Tryz.isAgg4
 z4:=Tryz.sizeOf4
 v4:=Tryz.zeroValue4
 t5:=Tryz.underlying5
 a5:=Tryz.isAgg5
 z5:=Tryz.sizeOf5
 v5:=Tryz.zeroValue5
 t9:=Tryz.underlying9
 a9:=Tryz.isAgg9
 z9:=Tryz.sizeOf9
 v9:=Tryz.zeroValue9
 t21:=Tryz.underlying21
 a21:=Tryz.isAgg21
 z21:=Tryz.sizeOf21
 v21:=Tryz.zeroValue21
 t31:=Tryz.underlying79
 a31:=Tryz.isAgg79
 z31:=Tryz.sizeOf79
 v31:=Tryz.zeroValue79
 t46:=Tryz.underlying196
 a46:=Tryz.isAgg196
 z46:=Tryz.sizeOf196
 v46:=Tryz.zeroValue196
 t51:=Tryz.underlying150
 a51:=Tryz.isAgg150
 z51:=Tryz.sizeOf150
 v51:=Tryz.zeroValue150
 t105:=Tryz.underlying201
 a105:=Tryz.isAgg201
 z105:=Tryz.sizeOf201
 v105:=Tryz.zeroValue201
 t119:=Tryz.underlying265
 a119:=Tryz.isAgg265
 z119:=Tryz.sizeOf265
 t138:=Tryz.underlying267
 a138:=Tryz.isAgg267
 z138:=Tryz.sizeOf267
 v138:=Tryz.zeroValue267
 t139:=Tryz.underlying268
 a139:=Tryz.isAgg268
 z139:=Tryz.sizeOf268
 v139:=Tryz.zeroValue268
 t146:=Tryz.underlying236
 a146:=Tryz.isAgg236
 z146:=Tryz.sizeOf236
 v146:=Tryz.zeroValue236
 g1:=by kernel_rfl
 g3:=by kernel_rfl
 g4:=by kernel_rfl }
open Go.RowKit Go.Lib in
theorem Tryz.strings_Split (s sep:ByteArray)(m:Int)(w:World)(hs:s.size<4294967281)(hm:w.cell? ⟨1,0,none⟩=some (.int .i64 m))(h1:1≤sep.size) :
  Calls Tryz.prog 33 #[.string s,.string sep] w fun e w'=>
   e=.returned (.slice (some ⟨w.heap.size,0,none⟩) (Lib.countB s sep+1) (Lib.countB s sep+1))∧w'=w.alloc (.cells ((Lib.splitB sep 0 (Lib.countB s sep) s).map Value.string).toArray 9):=Any.strings_Split Tryz.lays146 (by kernel_rfl) s sep m w hs hm h1
end Go.Proofs
namespace Go.Proofs.YtlknpnommcohkaaGreatDoor
set_option maxRecDepth 100000
open Go Go.RowKit Go.Proofs
theorem Dl {w w':World}{base E n cap g g':Nat}{xs:List Value}(h:w.ownsRow base E 1 (.slice (some ⟨g,0,none⟩) n cap) n xs)(hg:w.grownBy w' (some g'))(hne:g≠g'):w'.ownsRow base E 1 (.slice (some ⟨g,0,none⟩) n cap) n xs:=by
 obtain ⟨h1,h2⟩:=h;refine ⟨h1,?_⟩;rcases h2 with h2|⟨k,cap',cur,a1,a2,a3,a4⟩
 ·exact .inl h2
 ·simp only [Value.slice.injEq,Option.some.injEq,Addr.mk.injEq,and_true,true_and] at a1
  obtain ⟨rfl,rfl⟩:=a1;refine .inr ⟨g,cap,cur,rfl,a2,?_,a4⟩;rw [hg.block g (Array.getElem?_eq_some_iff.1 a3).1 (fun e=>hne (by simpa using e))];exact a3
theorem Qb (x:Nat)(h:0<x)(hx:x<4294967296):Lib.bitLen x≤32∧1≤Lib.bitLen x∧x*2 ^ (32-Lib.bitLen x)<4294967296:=by
 have h1:Lib.bitLen x≤32:=Lib.bitLen_le x 32 (by omega) (by omega);have h2:=Lib.bitLenAux_bounds 64 x (by omega) (by omega);have e:Lib.bitLenAux 64 x=Lib.bitLen x:=rfl;rw [e] at h2;refine ⟨h1,h2.1,?_⟩;have:x*2 ^ (32-Lib.bitLen x)<2 ^ Lib.bitLen x*2 ^ (32-Lib.bitLen x):=Nat.mul_lt_mul_of_pos_right h2.2.2 (Nat.two_pow_pos _);rw [←Nat.pow_add,show Lib.bitLen x+(32-Lib.bitLen x)=32 by omega] at this;exact this
theorem Ab8 (a ad:Option Addr)(c cd la m:Nat)(A d:List Nat)(w:World)(hla:A.length=la)(hdm:d.length=m)(hm2:2≤m)(hml:m≤la)(hl:la≤1073741824)(okA:OkL A)(okd:OkL d)(htop:0<d.getD (m-1) 0)
  (h:Row w a (limV A)) (h':Row w ad (limV d)) :
  Calls Tryz.prog 278 #[.slice a la c,.slice ad m cd] w fun e w'=>∃ v1 v2,e=.returned (.tuple #[v1,v2])∧RawO w' w.heap.size v1 (val A/val d)∧RawO w' w.heap.size v2 (val A%val d)∧Ext w w':=by
 have hda:=h';obtain ⟨bd,offd,had,hcd⟩:=h';have hAd:=had (Co (k:=0) (by omega));have htop2:=As okd (m-1);obtain ⟨hbl1,hbl2,hbl3⟩:=Qb _ htop htop2;have hct:=Ga hcd (k:=m-1) (by omega);obtain ⟨tp,htp⟩:=nmE (d.getD (m-1) 0);rw [←htp] at htop htop2 hbl1 hbl2 hbl3 hct;have hlz:=fun w=>Tryz.bits_LeadingZeros32 (tp:Int) w (by omega) (by omega);rw [Int.toNat_natCast] at hlz;obtain ⟨n,hn⟩:=nmE (32-Lib.bitLen tp);rw [←hn] at hbl3;have hn31:n<32:=by omega
 have hni:(32:Int)-(Lib.bitLen tp:Nat)=(n:Int):=by omega
 subst hAd;have hupA:=fun w (h:Row w a (limV A))=>up_c a c n A w (by omega) hn31 okA h;have hupD:=fun w (h:Row w (some ⟨bd,offd,none⟩) (limV d))=>up_c (some ⟨bd,offd,none⟩) cd n d w (by omega) hn31 okd h;rw [hla] at hupA;rw [hdm] at hupD;replace hupA:=mK hupA;replace hupD:=mK hupD;replace hlz:=mK hlz;replace hn:=mK hn;replace hni:=mK hni;replace htp:=mK htp;replace h:=mK h;replace hda:=mK hda;replace hla:=mK hla;replace hdm:=mK hdm;replace hbl3:=mK hbl3;clear hcd had hbl1 hbl2;go_enter Tryz.func278,Tryz.ntmps278;go_wp2_with fail;go_step3;go_wp2_with (go_at_call 304;refine (hlz.out _).mono ?_;rintro e w' ⟨rfl,hw'⟩;obtain rfl:w=w':=hw'.symm;rw [hni.out])
 go_region_with
  (first
   | (go_at_call_of 305 (Value.slice a la c);refine (hupA.out _ ?_).mono ?_;(exact h.out.ext (xR w).dr);rintro e w1 ⟨rl,rfl,ho1,okr1,hrl1,hrv1,hE1⟩;replace ho1:=mK ho1;replace hE1:=mK hE1;replace okr1:=mK okr1;replace hrl1:=mK hrl1;replace hrv1:=mK hrv1)
   | (go_at_call_of 305 (Value.slice (some ⟨bd,offd,none⟩) m cd);refine (hupD.out _ ?_).mono ?_;(exact hda.out.ext (((xR w).dr).trans hE1.out));rintro e w2 ⟨rd,rfl,ho2,okr2,hrl2,hrv2,hE2⟩;replace ho2:=mK ho2;replace hE2:=mK hE2;replace okr2:=mK okr2;replace hrl2:=mK hrl2;replace hrv2:=mK hrv2))
 rename_i hmm1;clear hmm1 hw';obtain ⟨hDm,hD2,hdv,hdtop,hdok,hdlen⟩:=Tu okd hdm.out hm2 hn31 (by rw [←htp.out];exact htop) (by rw [←htp.out];exact hbl3.out) okr2.out hrl2.out hrv2.out;have hst:=Uw okA hla.out hml (by omega) okr1.out hrl1.out hrv1.out hDm hD2;have hD0:0<val d*2 ^ n:=Nat.lt_of_lt_of_le (Nat.mul_pos (Nat.pow_pos (by omega)) (Nat.two_pow_pos n)) hD2
 have ho1w:w2.ownsRow w.heap.size 150 1 (.slice (some ⟨w.heap.size,0,none⟩) (la+1) (la+1)) (la+1) (limV rl):=by
  have:=Ca ho1.out hE2.out;rw [hrl1.out] at this;exact this
 have hds:∀ j,j<m→w2.cell? ⟨w1.heap.size,j,none⟩=some (.int .u32 ((rd.take m).getD j 0:Nat)):=by
  intro j hj;have:=ho2.out;unfold MagO at this;rw [hrl2.out] at this;rw [this.cellAt j (by omega),Ek (by rw [hrl2.out];omega)];simp [List.getD_eq_getElem?_getD,hj]
 have hgg:w.heap.size<w1.heap.size:=by
  have:=(ho1.out.lt _ rfl).2;exact this
 have hEw:Hid (Ext w w2):=(((xR w).dr).trans hE1.out).trans hE2.out;obtain ⟨dl,hdl⟩:=nmE (rd.take m);rw [←hdl] at hdv hdtop hdok hdlen hds;obtain ⟨D,hD⟩:=nmE (val d*2 ^ n);rw [←hD] at hDm hst hD0 hdv;obtain ⟨g2,hg2⟩:=nmE w1.heap.size;rw [←hg2] at hds hgg ⊢
 have hgs2:g2<w2.heap.size:=by
  have:=(ho2.out.lt _ rfl).2;rw [←hg2] at this;exact this
 replace hdl:=mK hdl;replace hD:=mK hD;replace hg2:=mK hg2;replace hst:=mK hst;replace ho1w:=mK ho1w;replace hds:=mK hds;replace hdv:=mK hdv;replace hdlen:=mK hdlen;clear ho1 ho2 okr1 okr2 hrl1 hrl2 hrv1 hrv2 hE1 hE2 hupA hupD hlz hni hct htop2 hD2 hbl3;have hmk:=fun w=>make32 (la+1-m) w (by omega);rw [show (((la+1-m:Nat)):Int)=(la:Int)+1-m by omega] at hmk;have hmax:max (0:Int) ((la:Int)+1-m)=(la:Int)+1-m:=by omega
 have htc:=fun o=>((xR w2).al o).cell (hds.out (m-1) (by omega));have hv1l:=As hdok (m-1);obtain ⟨v1,hv1⟩:=nmE (dl.getD (m-1) 0);rw [←hv1] at htc hdtop hv1l;replace hv1:=mK hv1;go_wp2_with fail;clear hmax htc hmk;go_step3;go_wp2_with fail;obtain ⟨g1,hg1⟩:=nmE w.heap.size;obtain ⟨gq,hgq⟩:=nmE w2.heap.size
 have hoq:(w2.alloc (.cells (limV (List.replicate (la+1-m) 0)).toArray 150)).ownsRow g1 150 1 (.slice (some ⟨gq,0,none⟩) (la+1-m) (la+1-m)) (la+1-m) (limV (List.replicate (la+1-m) 0)):=by
  have h1:=Cw (w:=w2) (q:=List.replicate (la+1-m) 0) (by simp;omega);unfold MagO at h1;rw [List.length_replicate,←hgq] at h1;exact Eu h1 (by omega)
 have hol:=Ca ho1w.out ((xR w2).al (.cells (limV (List.replicate (la+1-m) 0)).toArray 150));have hdsl:=mK (fun j hj=>((xR w2).al (.cells (limV (List.replicate (la+1-m) 0)).toArray 150)).cell (hds.out j hj));have hEl:=mK (hEw.out.al (.cells (limV (List.replicate (la+1-m) 0)).toArray 150));rw [←hg1] at hol hgg ⊢;rw [←hgq] at hgs2 ⊢;replace hoq:=mK hoq;replace hol:=mK hol;replace hg1:=mK hg1;replace hgq:=mK hgq;clear ho1w hds hEw
 go_loopw [10] (fun s wr=>∃ i l q,i≤la+1-m∧s=.int .i64 ((i:Int)-1)∧DivI m D (val A*2 ^ n) (la+1) (la+1-m) i l q∧wr.ownsRow g1 150 1 (.slice (some ⟨g1,0,none⟩) (la+1) (la+1)) (la+1) (limV l) ∧
  wr.ownsRow g1 150 1 (.slice (some ⟨gq,0,none⟩) (la+1-m) (la+1-m)) (la+1-m) (limV q)∧(∀ j,j<m→wr.cell? ⟨g2,j,none⟩=some (.int .u32 (dl.getD j 0:Nat)))∧Ext w wr) (fun s _=>(intOf s+1).toNat)
 case atStart=>exact ⟨la+1-m,_,_,nR _,by go_num,hst.out,hol.out,hoq.out,hdsl.out,hEl.out⟩
 case round=>
  clear hst hol hoq hdsl hEl;obtain ⟨i,l,q,hi,rfl,hdi,hol,hoq,hds,hE⟩:=hrel;cases i with
  | zero=>
   have hll:l.length=la+1:=hdi.1;have hql:q.length=la+1-m:=hdi.2.1;have okq:=hdi.2.2.2.1;rw [hD.out] at hdi;obtain ⟨f1,f2,f3,f4⟩:=Aec hdi rfl (by omega);have hsp:l=l.take m++l.drop m:=(List.take_append_drop m l).symm;obtain ⟨lt,hlt⟩:=nmE (l.take m);obtain ⟨lp,hlp⟩:=nmE (l.drop m);have hlpl:lp.length=la+1-m:=by rw [hlp,List.length_drop,hll]
   rw [hsp,←hlt,←hlp] at hol;rw [←hlt] at f2 f3 f4;clear hdi hsp;replace hlt:=mK hlt;replace hlp:=mK hlp;replace hll:=mK hll;replace hol:=mK hol;replace hoq:=mK hoq;replace hE:=mK hE;replace hql:=mK hql;replace f1:=mK f1;replace f2:=mK f2;replace f3:=mK f3;replace hlpl:=mK hlpl;clear hds;go_wp2_with fail;obtain ⟨wo,rfl⟩:=nmE (wr:World);go_loopw [169] (fun k' wr=>∃ k r',k≤m∧k'=.int .i64 (k:Nat)∧Kf lt n k r'∧wr.ownsRow g1 150 1 (.slice (some ⟨g1,0,none⟩) (la+1) (la+1)) (la+1) (limV (r'++lp))∧wo.grownBy wr (some g1)) (fun k' _=>m-(intOf k').toNat)
   case atStart=>exact ⟨0,lt,Nat.zero_le _,rfl,Or lt n f4,hol.out,World.grownBy.refl _ _⟩
   case round=>
    obtain ⟨k,r',hk,rfl,hsh,hol2,hg⟩:=hrel;have hr'l:r'.length=m:=by rw [hsh.1,f3.out]
    by_cases hltk:k<m
    ·have hx:=Ec hsh.2.2.1
     have hcell:wr.cell? ⟨g1,k,none⟩=some (.int .u32 (lt.getD k 0:Nat)):=by
      rw [hol2.cellAt k (by omega),←hx];have h2:(r'++lp).getD k 0=r'.getD k 0:=by simp [List.getD_eq_getElem?_getD,List.getElem?_append_left (show k<r'.length by omega)]
      rw [←h2];exact Ek (by simp;omega)
     have hfz:=hol2.frozenAt k;have hnext:=Qu hsh (by rw [f3.out];exact hltk) f4 hn31;have hxl:=As f4 k;have hyl:=As f4 (k+1)
     have hx1:r'.getD (k+1) 0=lt.getD (k+1) 0:=by
      have:=congrArg (fun l=>l.getD 1 0) hsh.2.2.1;simpa [List.getD_eq_getElem?_getD] using this
     have hj:=join64 (lt.getD (k+1) 0) (lt.getD k 0) hyl hxl;have hw:IntKind.u64.wrap (((lt.getD (k+1) 0:Nat):Int)*4294967296)=((lt.getD (k+1) 0:Nat):Int)*4294967296:=by rw [IntKind.wrap_u64];omega
     obtain ⟨V,hV⟩:=nmE ((lt.getD (k+1) 0*4294967296+lt.getD k 0)/2 ^ n%4294967296);rw [←hV] at hnext;obtain ⟨ht1,ht2⟩:=hol2.stored k (.int .u32 (V:Nat));rw [Dm,List.set_append_left _ _ (by omega)] at ht1;replace ht2:=hg.trans ht2;by_cases hlast:k+1<m
     ·have hc1:wr.cell? ⟨g1,k+1,none⟩=some (.int .u32 (lt.getD (k+1) 0:Nat)):=by
       rw [hol2.cellAt (k+1) (by omega),←hx1];have h2:(r'++lp).getD (k+1) 0=r'.getD (k+1) 0:=by simp [List.getD_eq_getElem?_getD,List.getElem?_append_left (show k+1<r'.length by omega)]
       rw [←h2];exact Ek (by simp;omega)
      generalize lt.getD (k+1) 0=y at *;generalize lt.getD k 0=x at *;clear hx hx1;replace hV:=mK hV;replace hsh:=mK hsh;replace hol2:=mK hol2;replace hg:=mK hg;replace ht1:=mK ht1;replace ht2:=mK ht2;replace hnext:=mK hnext;replace hr'l:=mK hr'l;have hVi:((y:Int)*4294967296+x)/2 ^ n%4294967296=(V:Int):=by rw [hV.out];simp
      replace hVi:=mK hVi;go_wp2_with fail;go_roundw
      case rel=>
       rw [hVi.out];exact ⟨k+1,_,by omega,by go_num,hnext.out,ht1.out,ht2.out⟩
      case measure=>simp [intOf]<;>omega
     ·have hy0:lt.getD (k+1) 0=0:=by simp [List.getD_eq_getElem?_getD,List.getElem?_eq_none (show lt.length≤k+1 by rw [f3.out];omega)]
      rw [hy0] at hV
      have hj0:bits .or .u64 0 ((lt.getD k 0:Nat):Int)=((lt.getD k 0:Nat):Int):=by
       have:=(bits_nat .u64 64 (by decide) Na 0 (lt.getD k 0) (by omega) (by omega)).2;rw [Nat.zero_or] at this;exact this
      generalize lt.getD k 0=x at *;have hVi:(x:Int)/2 ^ n%4294967296=(V:Int):=by rw [hV];simp
      clear hx hx1 hj hw hyl hy0;replace hVi:=mK hVi;replace hV:=mK hV;replace hsh:=mK hsh;replace hol2:=mK hol2;replace hg:=mK hg;replace ht1:=mK ht1;replace ht2:=mK ht2;replace hnext:=mK hnext;replace hr'l:=mK hr'l;go_wp2_with fail;go_roundw
      case rel=>
       rw [hVi.out];exact ⟨k+1,_,by omega,by go_num,hnext.out,ht1.out,ht2.out⟩
      case measure=>simp [intOf]<;>omega
    ·obtain rfl:m=k:=by omega
     clear hltk hk;have hs2:Kf lt n lt.length r':=by rw [f3.out];exact hsh
     obtain ⟨s1,s2,s3⟩:=Te hs2 f4;rw [f2.out] at s3;have hq2:=Dl hoq.out hg (by omega);have hE2:=hE.out.gr hg (fun k e=>by cases e;rw [hg1.out];exact nR _);have ho3:=Ja hol2 (m:=m) (by omega);rw [←Ny,List.take_append_of_le_length (by omega),List.take_of_length_le (by omega)] at ho3;have hR1:RawO wr g1 (.slice (some ⟨gq,0,none⟩) (la+1-m) (la+1-m)) (val A/val d):=⟨q,by unfold MagO;rw [hql.out];exact hq2,okq,by rw [hql.out];omega,f1.out⟩
     have hR2:RawO wr g1 (.slice (some ⟨g1,0,none⟩) m (la+1)) (val A%val d):=⟨r',by unfold MagO;rw [hr'l];exact ho3,s2,by omega,s3⟩
     rw [hg1.out] at hR1 hR2;replace hR1:=mK hR1;replace hR2:=mK hR2;replace hE2:=mK hE2;clear hs2 s1 s2 s3 hq2 ho3 hsh hol2 hg hr'l;rw [hg1.out];go_wp2_with fail;rw [Exit.noGoto_ret];go_ret2;exact ⟨_,_,rfl,hR1.out,hR2.out,hE2.out⟩
  | succ i=>
   rw [show (((i+1:Nat)):Int)-1=(i:Int) by omega];have hil:i+(m+1)≤la+1:=by omega
   have hll:l.length=la+1:=hdi.1;have c0:wr.cell? ⟨g1,i+m,none⟩=some (.int .u32 (l.getD (i+m) 0:Nat)):=by rw [hol.cellAt (i+m) (by omega)];exact Ek (by omega)
   have c1:wr.cell? ⟨g1,i+(m-1),none⟩=some (.int .u32 (l.getD (i+(m-1)) 0:Nat)):=by rw [hol.cellAt (i+(m-1)) (by omega)];exact Ek (by omega)
   have c2:wr.cell? ⟨g1,i+(m-2),none⟩=some (.int .u32 (l.getD (i+(m-2)) 0:Nat)):=by rw [hol.cellAt (i+(m-2)) (by omega)];exact Ek (by omega)
   have c3:=hds (m-2) (by omega);have b0:=As hdi.2.2.1 (i+m);have b1:=As hdi.2.2.1 (i+(m-1));have b2:=As hdi.2.2.1 (i+(m-2));have b3:=As hdok (m-2);obtain ⟨u0,hu0⟩:=nmE (l.getD (i+m) 0);obtain ⟨u1,hu1⟩:=nmE (l.getD (i+(m-1)) 0);obtain ⟨u2,hu2⟩:=nmE (l.getD (i+(m-2)) 0);obtain ⟨v2,hv2⟩:=nmE (dl.getD (m-2) 0);rw [←hu0] at c0 b0;rw [←hu1] at c1 b1;rw [←hu2] at c2 b2;rw [←hv2] at c3 b3;have j1:=join64 u0 u1 b0 b1;have hi1:0≤(i:Int):=by omega
   have w1':IntKind.i64.wrap ((m:Int)-1)=(m:Int)-1:=by rw [IntKind.wrap_i64];omega
   have w2':IntKind.i64.wrap ((m:Int)-2)=(m:Int)-2:=by rw [IntKind.wrap_i64];omega
   have w3':IntKind.u64.wrap ((u0:Int)*4294967296)=(u0:Int)*4294967296:=by rw [IntKind.wrap_u64];omega
   have w4':((m:Int)-1).toNat=m-1:=by omega
   have w5':((m:Int)-2).toNat=m-2:=by omega
   have k1:0≤(m:Int)-1:=by omega
   have k2:0≤(m:Int)-2:=by omega
   obtain ⟨hz,hPlt,hlv⟩:=Rk hdi (by omega);have hgf:=Yz hdi.2.2.1 hdok hm2 (by omega) hdlen.out hdv.out (by rw [←hv1.out];exact hdtop) hD0 hPlt;rw [←hv1.out,←hu0,←hu1,←hu2,←hv2] at hgf;obtain ⟨P,hP⟩:=nmE (val (Di l i m));rw [←hP] at hgf;have hgst:=mK (Pu hgf);have hgi:=mK (Jf hgf);replace hgf:=mK hgf;replace hP:=mK hP;clear hz hPlt hlv;replace hu0:=mK hu0;replace hu1:=mK hu1;replace hu2:=mK hu2;replace hv2:=mK hv2;replace hdi:=mK hdi;replace hol:=mK hol;replace hoq:=mK hoq;replace hds:=mK hds;replace hE:=mK hE;replace hll:=mK hll;go_wp2_with fail;rw [show i+m+1-i=m+1 by omega];go_quiet (fail);go_wp2_with fail;go_quiet (fail);clear j1 w3';go_upto_block 2 with fail
   go_cut [13] (fun s wx=>∃ g,s=.int .u64 (g:Nat)∧Vk P D g∧Drw wr wx)
   case first=>
    obtain ⟨hd,hhd⟩:=nmE (u0*4294967296+u1);rw [←hhd] at hgf hgst hgi;replace hhd:=mK hhd;go_wp2_with fail;go_loopw [13,14] (fun s13 s14 wx=>∃ g r,s13=.int .u64 (g:Nat)∧s14=.int .u64 (r:Nat)∧r<4294967296∧Kg P D v1 hd g r∧Drw wr wx) (fun s13 _ _=>(intOf s13).toNat)
    case atStart=>exact ⟨hd/v1,hd%v1,by rw [hhd.out];simp,by rw [hhd.out];simp,by have:=Nat.mod_lt hd hdtop;omega,hgst.out,⟨_,World.drewN_drewN ..⟩⟩
    case round=>
     clear hgst;obtain ⟨g,r,rfl,rfl,hr,hgI,hDr⟩:=hrel;have c2x:=(hDr.cell ⟨g1,i+(m-2),none⟩).trans c2;have c3x:=(hDr.cell ⟨g2,m-2,none⟩).trans c3
     have hgl:g<8589934592:=by
      have h1:=hgI.2;have h2:=hgi.out;have h3:g*v1<8589934592*v1:=by rw [Nat.add_mul,Nat.mul_comm v1] at h2;omega
      exact Nat.lt_of_mul_lt_mul_right h3
     by_cases hA:4294967296≤g
     ·have hAd:decide ((4294967296:Int)≤(g:Int))=true:=by simp;omega
      replace hA:=mK hA;obtain ⟨h1g,hnext⟩:=Mi hgf.out hgI (.inl hA.out);replace hgI:=mK hgI;replace hDr:=mK hDr;replace hnext:=mK hnext;by_cases hB:4294967296≤r+v1
      ·have hbr:=Jh hgf.out hnext.out hB
       replace hbr:=mK hbr;have hBd:decide ((4294967296:Int)≤(r:Int)+v1)=true:=by simp;omega
       replace hB:=mK hB;go_wp2_with fail;go_quiet (fail);go_wp2_with fail;go_meet;exact ⟨g-1,by rw [show ((g-1:Nat):Int)=(g:Int)-1 by omega],hbr.out,Drw.trans hDr.out ⟨_,rfl⟩⟩
      ·have hBd:decide ((4294967296:Int)≤(r:Int)+v1)=false:=by simp;omega
       have hBl:r+v1<4294967296:=by omega
       replace hB:=mK hB;replace hBl:=mK hBl;go_wp2_with fail;go_quiet (fail);go_wp2_with fail;go_roundw
       case rel=>exact ⟨g-1,r+v1,by rw [show ((g-1:Nat):Int)=(g:Int)-1 by omega],by rw [show ((r+v1:Nat):Int)=(r:Int)+v1 by omega],hBl.out,hnext.out,Drw.trans hDr.out ⟨_,rfl⟩⟩
       case measure=>simp [intOf]<;>omega
     ·have hAd:decide ((4294967296:Int)≤(g:Int))=false:=by simp;omega
      obtain ⟨S,hS⟩:=nmE (g*v2);have hSl:S≤4294967295*4294967295:=by rw [hS];exact Nat.mul_le_mul (by omega) (by omega)
      have e1:IntKind.u64.wrap ((g:Int)*v2)=(S:Int):=by
       rw [show (g:Int)*v2=((g*v2:Nat):Int) by simp,←hS,IntKind.wrap_u64];omega
      have e2:IntKind.u64.wrap ((r:Int)*4294967296)=(r:Int)*4294967296:=by rw [IntKind.wrap_u64];omega
      have e3:=join64 r u2 hr b2;replace hS:=mK hS;by_cases hC:r*4294967296+u2<S
      ·have hCd:decide ((r:Int)*4294967296+u2<(S:Int))=true:=by simp;omega
       obtain ⟨h1g,hnext⟩:=Mi hgf.out hgI (.inr (by rw [←hS.out];exact hC));replace hgI:=mK hgI;replace hDr:=mK hDr;replace hnext:=mK hnext;by_cases hB:4294967296≤r+v1
       ·have hbr:=Jh hgf.out hnext.out hB
        replace hbr:=mK hbr;have hBd:decide ((4294967296:Int)≤(r:Int)+v1)=true:=by simp;omega
        replace hB:=mK hB;go_wp2_with fail;go_quiet (fail);go_wp2_with fail;go_meet;exact ⟨g-1,by rw [show ((g-1:Nat):Int)=(g:Int)-1 by omega],hbr.out,Drw.trans hDr.out ⟨_,rfl⟩⟩
       ·have hBd:decide ((4294967296:Int)≤(r:Int)+v1)=false:=by simp;omega
        have hBl:r+v1<4294967296:=by omega
        replace hB:=mK hB;replace hBl:=mK hBl;go_wp2_with fail;go_quiet (fail);go_wp2_with fail;go_roundw
        case rel=>exact ⟨g-1,r+v1,by rw [show ((g-1:Nat):Int)=(g:Int)-1 by omega],by rw [show ((r+v1:Nat):Int)=(r:Int)+v1 by omega],hBl.out,hnext.out,Drw.trans hDr.out ⟨_,rfl⟩⟩
        case measure=>simp [intOf]<;>omega
      ·have hCd:decide ((r:Int)*4294967296+u2<(S:Int))=false:=by simp;omega
       have hend:=mK (Mh hgf.out hgI (by omega) (by rw [←hS.out];omega));replace hgI:=mK hgI;replace hDr:=mK hDr;go_wp2_with fail;go_quiet (fail);go_wp2_with fail;go_meet;exact ⟨g,rfl,hend.out,Drw.trans hDr.out ⟨_,rfl⟩⟩
   case rest=>
    obtain ⟨g,rfl,hgR,hDr⟩:=hcut;have hgl:g<4294967296:=hgR.2.2;have hol1:=Jb hDr.heap hol.out;have hoq1:=Jb hDr.heap hoq.out;have hds1:∀ j,j<m→wc.cell? ⟨g2,j,none⟩=some (.int .u32 (dl.getD j 0:Nat)):=fun j hj=>(hDr.cell _).trans (hds.out j hj);have hE1:=hE.out.trans hDr.ext;have hpl:=Iz (l:=l) (i:=i) (m:=m) (by rw [hll.out];omega);have hsplit:=To l i m;rw [hsplit] at hol1;have hless:=mK (Af0 g1 g1 g2 i (la+1) (la+1) (la+1-i) m (m+1) 0 g (l.take i) (Di l i m) (l.drop (i+(m+1))) dl wc (by rw [List.length_take,hll.out];omega) hpl hdlen.out (by omega) (by rw [List.length_drop,hll.out];omega) (by omega) hdok (Rl hdi.out.2.2.1 i m) hgl (by omega) hol1 hds1);replace hol1:=mK hol1;replace hoq1:=mK hoq1;replace hds1:=mK hds1;replace hE1:=mK hE1;replace hpl:=mK hpl;replace hsplit:=mK hsplit;replace hgR:=mK hgR;clear hDr hol hoq hds hE hgf hgst hgi c0 c1 c2 c3 b0 b1 b2 b3 hu0 hu1 hu2 hv2 w1' w2' w4' w5' k1 k2;go_wp2_with fail;refine hless.out.mono ?_;rintro e wd ⟨r,neg,rfl,hLR,hol2,hgr⟩;clear hless;have hoq2:=Dl hoq1.out hgr (by omega)
    have hds2:∀ j,j<m→wd.cell? ⟨g2,j,none⟩=some (.int .u32 (dl.getD j 0:Nat)):=fun j hj=>by
     have h1:=hds1.out j hj;rw [hgr.cell_far _ (Du h1) (fun e=>by simp at e;omega)];exact h1
    have hE2:Ext w wd:=hE1.out.gr hgr (fun k e=>by cases e;rw [hg1.out];exact nR _);clear hoq1 hds1 hE1 hgr hol1;have hLv:=hLR.2.2.2;have hLn:=hLR.2.2.1;rw [hdv.out,←hP.out] at hLv hLn;obtain ⟨oldq,hcq⟩:=Yb hoq2 (j:=i) (by omega);have hfq:=hoq2.frozenAt i;have hgm:(g:Int)%4294967296=g:=by omega
    cases neg with
    | false=>
     rw [if_neg (by simp),Nat.add_zero] at hLv;obtain ⟨hgd,hrv⟩:=Abs hLv hgR.out.1 hD0;have hnx:=Od hdi.out hil (by omega) hLR.2.1 (by rw [hLR.1];exact hpl.out) (by rw [←hP.out];exact hrv) hD0;rw [←hP.out,←hgd] at hnx;obtain ⟨hs1,hs2⟩:=hoq2.stored i (.int .u32 (g:Nat));rw [Dm] at hs1;have hol3:=Dl hol2 hs2 (by omega);have hE3:=hE2.gr hs2 (fun k e=>by cases e;have:=hg1.out;omega)
     have hds3:∀ j,j<m→(wd.setCell ⟨gq,i,none⟩ (.int .u32 (g:Nat))).cell? ⟨g2,j,none⟩=some (.int .u32 (dl.getD j 0:Nat)):=fun j hj=>by
      have h1:=hds2 j hj;rw [hs2.cell_far _ (Du h1) (fun e=>by simp at e;omega)];exact h1
     replace hnx:=mK hnx;replace hs1:=mK hs1;replace hol3:=mK hol3;replace hE3:=mK hE3;replace hds3:=mK hds3;replace hgd:=mK hgd;replace hgm:=mK hgm;clear hs2 hds2 hol2 hoq2 hE2 hLv hLn hLR hrv;go_wp2_with fail;go_roundw
     case rel=>exact ⟨i,_,_,by omega,rfl,hnx.out,hol3.out,hs1.out,hds3.out,hE3.out⟩
     case measure=>simp [intOf]<;>omega
    | true=>
     rw [if_pos rfl,hpl.out] at hLv;have hlt:P<g*D:=by simpa using hLn.symm
     have hg0:1≤g:=by
      rcases Nat.eq_zero_or_pos g with h0|h0
      ·rw [h0,Nat.zero_mul] at hlt;omega
      ·exact h0
     obtain ⟨hs1,hs2⟩:=hoq2.stored i (.int .u32 ((g-1:Nat):Int));rw [Dm] at hs1;obtain ⟨wd1,hwd1⟩:=nmE (wd.setCell ⟨gq,i,none⟩ (.int .u32 ((g-1:Nat):Int)));rw [←hwd1] at hs1 hs2;have hol3:=Dl hol2 hs2 (by omega);have hE3:Ext w wd1:=hE2.gr hs2 (fun k e=>by cases e;have:=hg1.out;omega)
     have hds3:∀ j,j<m→wd1.cell? ⟨g2,j,none⟩=some (.int .u32 (dl.getD j 0:Nat)):=fun j hj=>by
      have h1:=hds2 j hj;rw [hs2.cell_far _ (Du h1) (fun e=>by simp at e;omega)];exact h1
     have okr:=hLR.2.1;have hrl:r.length=m+1:=by rw [hLR.1];exact hpl.out
     replace hs1:=mK hs1;replace hol3:=mK hol3;replace hE3:=mK hE3;replace hds3:=mK hds3;replace hLv:=mK hLv;replace hlt:=mK hlt;replace hrl:=mK hrl;replace hwd1:=mK hwd1;clear hs2 hds2 hol2 hoq2 hE2 hLn hLR hgm;go_wp2_with fail;rw [show (g:Int)-1=((g-1:Nat):Int) by omega,←hwd1.out];clear hcq hfq;go_loopw [136,15] (fun k' c' wr=>∃ k cr r',k≤m∧k'=.int .i64 (k:Nat)∧c'=.int .u32 (cr:Nat)∧AddB r dl k cr r'∧wr.ownsRow g1 150 1 (.slice (some ⟨g1,0,none⟩) (la+1) (la+1)) (la+1) (limV (l.take i++r'++l.drop (i+(m+1))))∧wd1.grownBy wr (some g1)) (fun k' _ _=>m-(intOf k').toNat)
     case atStart=>exact ⟨0,0,r,Nat.zero_le _,rfl,rfl,Vj r dl okr,hol3.out,World.grownBy.refl _ _⟩
     case round=>
      obtain ⟨k,cr,r',hk,rfl,rfl,hab,hol4,hg4⟩:=hrel;have hti:(l.take i).length=i:=by rw [List.length_take,hll.out];omega
      have hr'l:r'.length=m+1:=by rw [hab.1,hrl.out]
      have hx:=Ec hab.2.2.1;have hcr:=hab.2.2.2.1;by_cases hltk:k<m
      ·have hcell:wr.cell? ⟨g1,i+k,none⟩=some (.int .u32 (r.getD k 0:Nat)):=by
        rw [hol4.cellAt (i+k) (by omega),←hx,←Jj (l.take i) r' (l.drop (i+(m+1))) k (by omega),hti];exact Ek (by have:=hll.out;simp;omega)
       have hdc:wr.cell? ⟨g2,k,none⟩=some (.int .u32 (dl.getD k 0:Nat)):=by
        have h1:=hds3.out k hltk;rw [hg4.cell_far _ (Du h1) (fun e=>by simp at e;omega)];exact h1
       have hfz:=hol4.frozenAt (i+k);have hnext:=Zt hab (by rw [hrl.out];omega) (by rw [hdlen.out];exact hltk) okr hdok;have hxl:=As okr k;have hyl:=As hdok k;generalize r.getD k 0=x at *;generalize dl.getD k 0=y at *;have had:=fun w=>Jn x y cr w hxl hyl hcr;obtain ⟨S,hS⟩:=nmE ((x+y+cr)%4294967296);obtain ⟨C,hC⟩:=nmE ((x+y+cr)/4294967296);rw [←hS,←hC] at had hnext;obtain ⟨ht1,ht2⟩:=hol4.stored (i+k) (.int .u32 (S:Nat));have hst:=Ky (l.take i) r' (l.drop (i+(m+1))) k S (by omega);rw [hti] at hst;rw [Dm,hst] at ht1;replace ht2:=hg4.trans ht2;replace had:=mK had;replace hnext:=mK hnext;replace ht1:=mK ht1;replace ht2:=mK ht2;clear hS hC hst hx hab hol4 hg4;replace hti:=mK hti;replace hr'l:=mK hr'l;go_wp2_with (go_at_call 307;refine (had.out _).mono ?_;rintro e w' ⟨rfl,rfl⟩);go_roundw
       case rel=>exact ⟨k+1,C,_,by omega,by go_num,rfl,hnext.out,ht1.out,ht2.out⟩
       case measure=>simp [intOf]<;>omega
      ·obtain rfl:m=k:=by omega
       have hcell:wr.cell? ⟨g1,i+m,none⟩=some (.int .u32 (r.getD m 0:Nat)):=by
        rw [hol4.cellAt (i+m) (by omega),←hx,←Jj (l.take i) r' (l.drop (i+(m+1))) m (by omega),hti];exact Ek (by have:=hll.out;simp;omega)
       have hfz:=hol4.frozenAt (i+m);have hxl:=As okr m;obtain ⟨Y,hY⟩:=nmE ((r.getD m 0+cr)%4294967296);obtain ⟨a1,a2,a3⟩:=Acs hab hdlen.out hrl.out Y hY;have a4:=Cs a2;rw [a1] at a4;rw [hdv.out] at a3;obtain ⟨hgd,hrv⟩:=Acp hLv.out hlt.out hgR.out.2.1 hD0 a4 a3;have hnx:=Od hdi.out hil (by omega) a2 a1 (by rw [←hP.out];exact hrv) hD0;rw [←hP.out,←hgd] at hnx;obtain ⟨ht1,ht2⟩:=hol4.stored (i+m) (.int .u32 (Y:Nat));have hst:=Ky (l.take i) r' (l.drop (i+(m+1))) m Y (by omega);rw [hti] at hst;rw [Dm,hst] at ht1;replace ht2:=hg4.trans ht2;have hq5:=Dl hs1.out ht2 (by omega);have hE5:=hE3.out.gr ht2 (fun k e=>by cases e;rw [hg1.out];exact nR _)
       have hds5:∀ j,j<m→(wr.setCell ⟨g1,i+m,none⟩ (.int .u32 (Y:Nat))).cell? ⟨g2,j,none⟩=some (.int .u32 (dl.getD j 0:Nat)):=fun j hj=>by
        have h1:=hds3.out j hj;rw [ht2.cell_far _ (Du h1) (fun e=>by simp at e;omega)];exact h1
       generalize r.getD m 0=x at *;have hYi:((x:Int)+cr)%4294967296=(Y:Int):=by omega
       replace hYi:=mK hYi;replace hnx:=mK hnx;replace ht1:=mK ht1;replace hq5:=mK hq5;replace hE5:=mK hE5;replace hds5:=mK hds5;clear hY a1 a2 a3 a4 hgd hrv hst ht2 hx hab hol4 hg4;replace hti:=mK hti;replace hr'l:=mK hr'l;go_wp2_with fail;go_roundw
       case rel=>
        rw [hYi.out];exact ⟨i,_,_,by omega,rfl,hnx.out,ht1.out,hq5.out,hds5.out,hE5.out⟩
       case measure=>simp [intOf]<;>omega
theorem Hu (X:Int):∃ b:Bool,b=decide (X<0)∧X=sg b X.natAbs:=by
 refine ⟨_,rfl,?_⟩;unfold sg;by_cases h:X<0
 ·rw [if_pos (by simpa using h)];omega
 ·rw [if_neg (by simpa using h)];omega
theorem Ou (X Y:Int):sg (decide (X<0) != decide (Y<0)) (X.natAbs/Y.natAbs)=X.tdiv Y:=by
 obtain ⟨bx,h1,hx⟩:=Hu X;obtain ⟨bY,h2,hy⟩:=Hu Y;rw [←h1,←h2]
 conv=>rhs;rw [hx,hy]
 generalize X.natAbs=a;generalize Y.natAbs=b;unfold sg;cases bx<;>cases bY<;>simp [Int.neg_tdiv,Int.tdiv_neg]
theorem Ot (X Y:Int):sg (decide (X<0)) (X.natAbs%Y.natAbs)=X.tmod Y:=by
 obtain ⟨bx,h1,hx⟩:=Hu X;obtain ⟨bY,h2,hy⟩:=Hu Y;rw [←h1]
 conv=>rhs;rw [hx,hy]
 generalize X.natAbs=a;generalize Y.natAbs=b;unfold sg;cases bx<;>cases bY<;>simp [Int.neg_tmod,Int.tmod_neg,←Int.ofNat_tmod]
theorem Gz {P:Program}{fn:Func}{p q:Tmp}{ty:TypeId}(h:fn.results=#[.cell p ty,.cell q ty])(tmps:Array Value)(w:World)(g g':Nat)(t:TypeId)(cs cs':Array Value)(d:TypeDesc)
  (hp:tmps.getD p undef=.pointer (some ⟨g,0,none⟩)) (hq:tmps.getD q undef=.pointer (some ⟨g',0,none⟩)) (hg:w.heap[g]? = some (.cells cs t (0,0))) (hg':w.heap[g']? = some (.cells cs' t (0,0)))
  (hu:P.underlying ty=some d) (hd:(match d with | .struct _ | .array _ _=>true|_=>false)=true) (hi:(P.info? ty).map (·.size)=some cs.size) (hi':(P.info? ty).map (·.size)=some cs'.size) :
  (results fn tmps).run P w=.ok (.tuple #[.agg cs,.agg cs']) w:=by
 have hp':tmps[p]?.getD undef=.pointer (some ⟨g,0,none⟩):=by simpa using hp
 have hq':tmps[q]?.getD undef=.pointer (some ⟨g',0,none⟩):=by simpa using hq
 simp [results,h,hp',hq',asAddr,run_loadVar_row w g t ty cs (0,0) d hg hu hd hi,run_loadVar_row w g' t ty cs' (0,0) d hg' hu hd hi']
theorem Fe (w:World)(g g':Nat)(cs cs' o o':Array Value)(t:TypeId)(hne:g≠g')(h:w.heap[g]? = some (.cells o t (0,0)))(h':w.heap[g']? = some (.cells o' t (0,0))) :
  ((w.setRow g cs).setRow g' cs').heap[g]? = some (.cells cs t (0,0))∧((w.setRow g cs).setRow g' cs').heap[g']? = some (.cells cs' t (0,0))∧(w.setRow g cs).heap[g']? = some (.cells o' t (0,0)):=by
 have h1:(w.setRow g cs).heap[g']? = some (.cells o' t (0,0)):=by rw [setRow_other _ _ _ _ (Ne.symm hne)];exact h'
 exact ⟨by rw [setRow_other _ _ _ _ hne];exact setRow_heap _ _ _ _ _ _ h,setRow_heap _ _ _ _ _ _ h1,h1⟩
theorem Si (bx bY:Bool)(a1 a2:Option Addr)(c1 c2:Nat)(X Y:Int)(w:World)(hX:nl X≤1073741824)(hY:nl Y≤1073741824)(hlt:X.natAbs<Y.natAbs)(hbx:bx=decide (X<0))
  (r1:Row w a1 (limV (lim X.natAbs))) (r2:Row w a2 (limV (lim Y.natAbs))) :
  Calls Tryz.prog 227 #[.agg #[.bool bx,.slice a1 (lim X.natAbs).length c1],.agg #[.bool bY,.slice a2 (lim Y.natAbs).length c2]] w fun e w'=>∃ q r,e=.returned (.tuple #[q,r])∧Ext w w'∧IntO w' w.heap.size q (X.tdiv Y)∧IntO w' w.heap.size r (X.tmod Y):=by
 have hq0:X.tdiv Y=0:=by rw [←Ou,Nat.div_eq_of_lt hlt];unfold sg;split<;>rfl
 have hr0:sg bx (val (lim X.natAbs))=X.tmod Y:=by rw [Bn,←Ot,Nat.mod_eq_of_lt hlt,hbx]
 rw [hq0];replace hr0:=mK hr0;replace hbx:=mK hbx;clear hq0;go_enter Tryz.func227,Tryz.ntmps227;go_wp2_with fail;obtain ⟨wb,hw3⟩:=nmE ((((w.alloc (.cells #[.bool bx,.slice a1 (lim X.natAbs).length c1] 26)).alloc (.cells #[.bool bY,.slice a2 (lim Y.natAbs).length c2] 26)).alloc (.cells #[.bool false,.slice none 0 0] 26)).alloc (.cells #[.bool false,.slice none 0 0] 26));have hE:=aLe4 hw3;obtain ⟨h00,h01⟩:=ceX1 (aL40 hw3);obtain ⟨h10,h11⟩:=ceX1 (aL41 hw3);have hsz:w.heap.size+4≤wb.heap.size:=by rw [hw3];simp
 have hB2:=fun W (e:Ext wb W)=>e.blk (aL42 hw3);have hB3:=fun W (e:Ext wb W)=>e.blk (aL43 hw3);rw [←hw3];refine (Lr _ _ _ _ _ _ _ (by unfold nl at *;omega) (by unfold nl at *;omega) (r1.ext hE) (r2.ext hE)).mono ?_;rintro e w3 ⟨r,rfl,hr,he4⟩;replace r1:=mK (r1.ext (hE.trans he4));replace r2:=mK (r2.ext (hE.trans he4));replace h00:=exL h00 he4;replace h01:=exL h01 he4;replace h10:=exL h10 he4;replace h11:=exL h11 he4;replace hB2:=mK (fun W (e:Ext w3 W)=>hB2 W (he4.trans e));replace hB3:=mK (fun W (e:Ext w3 W)=>hB3 W (he4.trans e));replace hsz:w.heap.size+4≤w3.heap.size:=by have:=he4.size;omega
 replace hE:=hE.trans he4;clear hw3 he4;have k00:=h00 w3 (xR _);have k01:=h01 w3 (xR _);have k10:=h10 w3 (xR _);have k11:=h11 w3 (xR _);have hr1:r<0:=hr.1.2 hlt;replace hr:=mK hr;replace hlt:=mK hlt;go_wp2_with fail;refine (Aeu _ _ _ _ _ (By _) (by unfold nl at *;omega) r1.out).mono ?_;rintro e w4 ⟨v,rfl,hv,hE4⟩;rw [hr0.out] at hv;have hz:IntO w4 (w.heap.size+4) (.agg #[.bool false,.slice none 0 0]) 0:=⟨.slice none 0 0,by simp,by simp [Az];exact Fh _ _⟩
 have hv2:=hv.mono hsz;clear hv k00 k01 k10 k11;obtain ⟨br,ar,nr',cr,rfl⟩:=(hv2).r.shape;have hb2:=hB2.out w4 hE4;have hb3:=hB3.out w4 hE4;have hrows:=Fe w4 (w.heap.size+2) (w.heap.size+3) #[.bool false,.slice none 0 0] #[.bool br,.slice ar nr' cr] _ _ _ (by omega) hb2 hb3;have hQ:=(((hz).row (g:=w.heap.size+2) (by omega) #[.bool false,.slice none 0 0]).row (g:=w.heap.size+3) (by omega) #[.bool br,.slice ar nr' cr]).mono (show w.heap.size≤w.heap.size+4 by omega);have hR:=(((hv2).row (g:=w.heap.size+2) (by omega) #[.bool false,.slice none 0 0]).row (g:=w.heap.size+3) (by omega) #[.bool br,.slice ar nr' cr]).mono (show w.heap.size≤w.heap.size+4 by omega);have hEW:=mK ((((hE.trans hE4).row (show w.heap.size≤w.heap.size+2 by omega) #[.bool false,.slice none 0 0])).row (show w.heap.size≤w.heap.size+3 by omega) #[.bool br,.slice ar nr' cr]);replace hQ:=mK hQ;replace hR:=mK hR;replace hrows:=mK hrows;replace hb2:=mK hb2;clear h00 h01 h10 h11 hb3
 skip
 go_wp2_with (first
  | (refine wpList_store_row rfl 26 (.tmp 4) (.tmp 17) rfl (w.heap.size+2) #[.bool false,.slice none 0 0] rfl rfl 26 _ hb2.out (by kernel_rfl) rfl (by kernel_rfl) ?_)
  | (refine wpList_store_row rfl 26 (.tmp 5) (.tmp 22) rfl (w.heap.size+3) #[.bool br,.slice ar nr' cr] rfl rfl 26 _ hrows.out.2.2 (by kernel_rfl) rfl (by kernel_rfl) ?_))
 exact bodyPost_ret (Gz rfl _ _ (w.heap.size+2) (w.heap.size+3) 26 #[.bool false,.slice none 0 0] #[.bool br,.slice ar nr' cr] _ rfl rfl hrows.out.1 hrows.out.2.1 Tryz.underlying26 rfl (by kernel_rfl) (by kernel_rfl)) rfl ⟨_,_,rfl,hEW.out,hQ.out,hR.out⟩
theorem Ada (w:World)(r:Nat)(hr:r<4294967296):RawO (w.alloc (.cells #[.int .u32 (r:Int)] 150)) w.heap.size (.slice (some ⟨w.heap.size,0,none⟩) 1 1) r:=by
 have:=Cw (w:=w) (q:=[r]) (by simp);refine ⟨[r],this,?_,by simp,by simp [val]⟩;intro x hx;simp only [List.mem_cons,List.not_mem_nil,or_false] at hx;omega
theorem Ht {n:Nat}(h0:n≠0)(h:n<4294967296):lim n=[n]:=by
 rw [Cg h0,Nat.mod_eq_of_lt h,Nat.div_eq_of_lt h,Az]
theorem Ys {w:World}{base:Nat}{v:Value}{l:List Nat}(h:MagO w base v l)(hl:l≠[]):∃ g cap,v=.slice (some ⟨g,0,none⟩) l.length cap:=by
 obtain ⟨h1,h2⟩:=h;rcases h2 with ⟨rfl,h2⟩|⟨g,cap,cur,rfl,_⟩
 ·exact absurd (List.eq_nil_of_length_eq_zero (by omega)) hl
 ·exact ⟨g,cap,rfl⟩
theorem Uv (bx bY:Bool)(a1 a2:Option Addr)(c1 c2:Nat)(X Y:Int)(w:World)(hX:nl X≤1073741824)(hge:¬X.natAbs<Y.natAbs)(hY0:Y≠0)(hY1:Y.natAbs<4294967296)(hbx:bx=decide (X<0))(hbY:bY=decide (Y<0))
  (r1:Row w a1 (limV (lim X.natAbs))) (r2:Row w a2 (limV (lim Y.natAbs))) :
  Calls Tryz.prog 227 #[.agg #[.bool bx,.slice a1 (lim X.natAbs).length c1],.agg #[.bool bY,.slice a2 (lim Y.natAbs).length c2]] w fun e w'=>∃ q r,e=.returned (.tuple #[q,r])∧Ext w w'∧IntO w' w.heap.size q (X.tdiv Y)∧IntO w' w.heap.size r (X.tmod Y):=by
 have hY:nl Y≤1073741824:=by unfold nl;rw [Ht (by omega) hY1];simp
 have hq0:=mK (Ou X Y);have hr0:=mK (Ot X Y);rw [←hbx,←hbY] at hq0;rw [←hbx] at hr0;replace hbx:=mK hbx;replace hbY:=mK hbY;have hlY:=mK (Ht (show Y.natAbs≠0 by omega) hY1);go_enter Tryz.func227,Tryz.ntmps227;go_wp2_with fail;obtain ⟨wb,hw3⟩:=nmE ((((w.alloc (.cells #[.bool bx,.slice a1 (lim X.natAbs).length c1] 26)).alloc (.cells #[.bool bY,.slice a2 (lim Y.natAbs).length c2] 26)).alloc (.cells #[.bool false,.slice none 0 0] 26)).alloc (.cells #[.bool false,.slice none 0 0] 26));have hE:=aLe4 hw3;obtain ⟨h00,h01⟩:=ceX1 (aL40 hw3);obtain ⟨h10,h11⟩:=ceX1 (aL41 hw3);have hsz:w.heap.size+4≤wb.heap.size:=by rw [hw3];simp
 have hB2:=fun W (e:Ext wb W)=>e.blk (aL42 hw3);have hB3:=fun W (e:Ext wb W)=>e.blk (aL43 hw3);rw [←hw3];refine (Lr _ _ _ _ _ _ _ (by unfold nl at *;omega) (by unfold nl at *;omega) (r1.ext hE) (r2.ext hE)).mono ?_;rintro e w3 ⟨r,rfl,hr,he4⟩;replace r1:=mK (r1.ext (hE.trans he4));replace r2:=mK (r2.ext (hE.trans he4));replace h00:=exL h00 he4;replace h01:=exL h01 he4;replace h10:=exL h10 he4;replace h11:=exL h11 he4;replace hB2:=mK (fun W (e:Ext w3 W)=>hB2 W (he4.trans e));replace hB3:=mK (fun W (e:Ext w3 W)=>hB3 W (he4.trans e));replace hsz:w.heap.size+4≤w3.heap.size:=by have:=he4.size;omega
 replace hE:=hE.trans he4;clear hw3 he4;have k00:=h00 w3 (xR _);have k01:=h01 w3 (xR _);have k10:=h10 w3 (xR _);have k11:=h11 w3 (xR _);have hr1:¬r<0:=fun h=>hge (hr.1.1 h);have hr2:=hr.2.2;replace hr:=mK hr;have hll:(((lim Y.natAbs).length:Int)==1)=true:=by rw [hlY.out];rfl
 have hxn:lim X.natAbs≠[]:=by rw [Cg (by omega)];simp
 go_wp2_with fail;refine (Jl _ _ _ _ (by unfold nl at *;omega) r1.out).mono ?_;rintro e w4 ⟨v,rfl,hv,hE4⟩;obtain ⟨g,cap,rfl⟩:=Ys hv hxn;have hg:=(hv.lt _ rfl)
 have hyc:w4.cell? ⟨w.heap.size+1,1,none⟩=some (.slice a2 (lim Y.natAbs).length c2):=h11 w4 hE4;obtain ⟨b2,off2,had2,hcd2⟩:=r2.out;have hA2:=had2 (by rw [hlY.out];simp [limV])
 have hy0:w4.cell? ⟨b2,off2,none⟩=some (.int .u32 (Y.natAbs:Nat)):=by
  have:=hE4.cell (hcd2 0 (by rw [hlY.out];simp [limV]));rw [hlY.out] at this;exact this
 subst hA2;have hsh:=mK (Vv w3.heap.size g (lim X.natAbs).length cap Y.natAbs (lim X.natAbs) w4 rfl (by unfold nl at *;omega) (By _) (by omega) hY1 hv);have hlen1:(lim Y.natAbs).length=1:=by rw [hlY.out];rfl
 clear k00 k01 k10 k11 hv hcd2 had2 hll hxn;replace hge:=mK hge;rw [hlen1] at hyc;go_wp2_with fail;refine hsh.out.mono ?_;rintro e w5 ⟨p,rr,rfl,hSh,ho5,hg5⟩;have hE5:Ext w3 w5:=hE4.gr hg5 (fun k e=>by cases e;exact hg.1);obtain ⟨p1,p2,p3,p4,p5⟩:=hSh;rw [List.drop_zero,List.drop_zero,Bn] at p5
 have hqv:val p=X.natAbs/Y.natAbs:=by
  rw [p5,Nat.mul_comm,Nat.mul_add_div (by omega),Nat.div_eq_of_lt p3,Nat.add_zero]
 have hrv:rr=X.natAbs%Y.natAbs:=by
  rw [p5,Nat.mul_comm,Nat.mul_add_mod,Nat.mod_eq_of_lt p3]
 have hraw:RawO w5 w3.heap.size (.slice (some ⟨g,0,none⟩) (lim X.natAbs).length cap) (X.natAbs/Y.natAbs):=⟨p,by unfold MagO;rw [p1];exact ho5,p2,by rw [p1];unfold nl at *;omega,hqv⟩
 have hrl:rr<4294967296:=by omega
 rw [←hrv] at hr0;replace hraw:=mK hraw;clear hsh p1 p2 p3 p4 p5 hqv hrv ho5 hg5 hyc hy0;go_wp2_with fail
 apply Ak [.val _,.val _,.val _,.val _,.val _,.val _,.pred (fun W v=>IntO W (w.heap.size+4) v (X.tdiv Y)),.val _,.val _,.val _,.pred (fun W v=>RawO W (w.heap.size+4) v rr),.pred (fun W v=>IntO W (w.heap.size+4) v (X.tmod Y))] (by kernel_rfl)
  (stable_vals _ (stable_vals _ (stable_vals _ (stable_vals _ (stable_vals _ (stable_vals _ (Av _ _ (stable_vals _ (stable_vals _ (stable_vals _ (Kx _ _ (Av _ _ trivial))))))))))))
 ·have h00':∀ W,Ext w5 W→W.cell? ⟨w.heap.size,0,none⟩=some (.bool bx):=fun W e=>h00 W (hE5.trans e)
  have h10':∀ W,Ext w5 W→W.cell? ⟨w.heap.size+1,0,none⟩=some (.bool bY):=fun W e=>h10 W (hE5.trans e);iterate 6 (refine ⟨fun W hW _=>by go_simp;exact ⟨xR _,rfl⟩,?_⟩)
  refine ⟨fun W hW hF=>?g6,fun v6=>?_⟩
  case g6=>
   go_simp;refine (Ci (bx != bY) _ _ _ W (hraw.out.ext hW)).mono ?_;rintro e w' ⟨v,rfl,h1,h2⟩;rw [hq0.out] at h2;exact ⟨v,rfl,h1,h2.mono hsz⟩
  iterate 3 (refine ⟨fun W hW _=>by go_simp;exact ⟨xR _,rfl⟩,?_⟩)
  refine ⟨fun W hW hF=>?g10,fun v10=>⟨fun W hW hF=>?g11,fun v11=>fun W hW hF=>?fin⟩⟩
  case g10=>
   have hsW:w.heap.size+4≤W.heap.size:=by have:=(hE5.trans hW).size;omega
   have hro:=mK ((Ada W rr hrl).mono hsW);go_simp;exact ⟨(xR _).al _,hro.out⟩
  case g11=>
   have h10:Hid (RawO W (w.heap.size+4) v10 rr):=hF.1 (by kernel_rfl);clear hF;go_simp;refine (Ci bx _ _ _ W h10.out).mono ?_;rintro e w' ⟨v,rfl,h1,h2⟩;rw [hr0.out] at h2;exact ⟨v,rfl,h1,h2⟩
  case fin=>
   have hR11:IntO W (w.heap.size+4) v11 (X.tmod Y):=hF.1 rfl;have hQ6:IntO W (w.heap.size+4) v6 (X.tdiv Y):=hF.2.2.1 rfl;clear hF;have hEx:=hE5.trans hW;clear h00' h10';obtain ⟨bq,aq,nq',cq,rfl⟩:=hQ6.r.shape;obtain ⟨br,ar,nr',cr,rfl⟩:=(hR11).r.shape;have hb2:=hB2.out W hEx;have hb3:=hB3.out W hEx;have hrows:=Fe W (w.heap.size+2) (w.heap.size+3) #[.bool bq,.slice aq nq' cq] #[.bool br,.slice ar nr' cr] _ _ _ (by omega) hb2 hb3;have hQ:=(((hQ6).row (g:=w.heap.size+2) (by omega) #[.bool bq,.slice aq nq' cq]).row (g:=w.heap.size+3) (by omega) #[.bool br,.slice ar nr' cr]).mono (show w.heap.size≤w.heap.size+4 by omega);have hR:=(((hR11).row (g:=w.heap.size+2) (by omega) #[.bool bq,.slice aq nq' cq]).row (g:=w.heap.size+3) (by omega) #[.bool br,.slice ar nr' cr]).mono (show w.heap.size≤w.heap.size+4 by omega);have hEW:=mK ((((hE.trans hEx).row (show w.heap.size≤w.heap.size+2 by omega) #[.bool bq,.slice aq nq' cq])).row (show w.heap.size≤w.heap.size+3 by omega) #[.bool br,.slice ar nr' cr]);replace hQ:=mK hQ;replace hR:=mK hR;replace hrows:=mK hrows;replace hb2:=mK hb2;clear h00 h01 h10 h11 hb3;go_simp
   go_wp2_with (first
    | (refine wpList_store_row rfl 26 (.tmp 4) (.tmp 43) rfl (w.heap.size+2) #[.bool bq,.slice aq nq' cq] rfl rfl 26 _ hb2.out (by kernel_rfl) rfl (by kernel_rfl) ?_)
    | (refine wpList_store_row rfl 26 (.tmp 5) (.tmp 48) rfl (w.heap.size+3) #[.bool br,.slice ar nr' cr] rfl rfl 26 _ hrows.out.2.2 (by kernel_rfl) rfl (by kernel_rfl) ?_))
   exact bodyPost_ret (Gz rfl _ _ (w.heap.size+2) (w.heap.size+3) 26 #[.bool bq,.slice aq nq' cq] #[.bool br,.slice ar nr' cr] _ rfl rfl hrows.out.1 hrows.out.2.1 Tryz.underlying26 rfl (by kernel_rfl) (by kernel_rfl)) rfl ⟨_,_,rfl,hEW.out,hQ.out,hR.out⟩
theorem Wi {n:Nat}(h:n≠0):0<(lim n).getD ((lim n).length-1) 0:=by
 refine Pq (P:=fun n=>n≠0→0<(lim n).getD ((lim n).length-1) 0) (fun h=>absurd rfl h) ?_ n h;intro n h ih _;rw [Cg h];by_cases h0:n/4294967296=0
 ·rw [h0,Az]
  simp;omega
 ·have:=ih h0
  have hl:(lim (n/4294967296)).length≠0:=by rw [Cg h0];simp
  obtain ⟨k,hk⟩:∃ k,(lim (n/4294967296)).length=k+1:=⟨_,(Nat.succ_pred_eq_of_ne_zero hl).symm⟩
  rw [hk] at this;simpa [hk] using this
theorem Sh (bx bY:Bool)(a1 a2:Option Addr)(c1 c2:Nat)(X Y:Int)(w:World)(hX:nl X≤1073741824)(hY:nl Y≤1073741824)(hge:¬X.natAbs<Y.natAbs)(hY1:4294967296≤Y.natAbs)(hbx:bx=decide (X<0))(hbY:bY=decide (Y<0))
  (r1:Row w a1 (limV (lim X.natAbs))) (r2:Row w a2 (limV (lim Y.natAbs))) :
  Calls Tryz.prog 227 #[.agg #[.bool bx,.slice a1 (lim X.natAbs).length c1],.agg #[.bool bY,.slice a2 (lim Y.natAbs).length c2]] w fun e w'=>∃ q r,e=.returned (.tuple #[q,r])∧Ext w w'∧IntO w' w.heap.size q (X.tdiv Y)∧IntO w' w.heap.size r (X.tmod Y):=by
 have hq0:=mK (Ou X Y);have hr0:=mK (Ot X Y);rw [←hbx,←hbY] at hq0;rw [←hbx] at hr0;replace hbx:=mK hbx;replace hbY:=mK hbY
 have hm2:2≤(lim Y.natAbs).length:=by
  rw [Cg (by omega),Cg (by omega)];simp
 have hml:=Cq (show Y.natAbs≤X.natAbs by omega);go_enter Tryz.func227,Tryz.ntmps227;go_wp2_with fail;obtain ⟨wb,hw3⟩:=nmE ((((w.alloc (.cells #[.bool bx,.slice a1 (lim X.natAbs).length c1] 26)).alloc (.cells #[.bool bY,.slice a2 (lim Y.natAbs).length c2] 26)).alloc (.cells #[.bool false,.slice none 0 0] 26)).alloc (.cells #[.bool false,.slice none 0 0] 26));have hE:=aLe4 hw3;obtain ⟨h00,h01⟩:=ceX1 (aL40 hw3);obtain ⟨h10,h11⟩:=ceX1 (aL41 hw3);have hsz:w.heap.size+4≤wb.heap.size:=by rw [hw3];simp
 have hB2:=fun W (e:Ext wb W)=>e.blk (aL42 hw3);have hB3:=fun W (e:Ext wb W)=>e.blk (aL43 hw3);rw [←hw3];refine (Lr _ _ _ _ _ _ _ (by unfold nl at *;omega) (by unfold nl at *;omega) (r1.ext hE) (r2.ext hE)).mono ?_;rintro e w3 ⟨r,rfl,hr,he4⟩;replace r1:=mK (r1.ext (hE.trans he4));replace r2:=mK (r2.ext (hE.trans he4));replace h00:=exL h00 he4;replace h01:=exL h01 he4;replace h10:=exL h10 he4;replace h11:=exL h11 he4;replace hB2:=mK (fun W (e:Ext w3 W)=>hB2 W (he4.trans e));replace hB3:=mK (fun W (e:Ext w3 W)=>hB3 W (he4.trans e));replace hsz:w.heap.size+4≤w3.heap.size:=by have:=he4.size;omega
 replace hE:=hE.trans he4;clear hw3 he4;have k00:=h00 w3 (xR _);have k01:=h01 w3 (xR _);have k10:=h10 w3 (xR _);have k11:=h11 w3 (xR _);have hr1:¬r<0:=fun h=>hge (hr.1.1 h);have hr2:=hr.2.2;replace hr:=mK hr;have hll:(((lim Y.natAbs).length:Int)==1)=false:=by rw [beq_eq_false_iff_ne];omega
 have hdv:=Ab8 a1 a2 c1 c2 (lim X.natAbs).length (lim Y.natAbs).length (lim X.natAbs) (lim Y.natAbs) w3 rfl rfl hm2 hml (by unfold nl at *;omega) (By _) (By _) (Wi (by omega)) r1.out r2.out;rw [Bn,Bn] at hdv;replace hdv:=mK hdv;replace hge:=mK hge;replace hml:=mK hml;go_wp2_with fail;refine hdv.out.mono ?_;rintro e w5 ⟨vq,vr,rfl,hq5,hr5,hE5⟩;replace hq5:=mK hq5;replace hr5:=mK hr5;clear hdv k00 k01 k10 k11 hll;go_wp2_with fail
 apply Ak [.val _,.val _,.val _,.val _,.val _,.val _,.pred (fun W v=>IntO W (w.heap.size+4) v (X.tdiv Y)),.val _,.val _,.val _,.pred (fun W v=>IntO W (w.heap.size+4) v (X.tmod Y))] (by kernel_rfl)
  (stable_vals _ (stable_vals _ (stable_vals _ (stable_vals _ (stable_vals _ (stable_vals _ (Av _ _ (stable_vals _ (stable_vals _ (stable_vals _ (Av _ _ trivial)))))))))))
 ·have h00':∀ W,Ext w5 W→W.cell? ⟨w.heap.size,0,none⟩=some (.bool bx):=fun W e=>h00 W (hE5.trans e)
  have h10':∀ W,Ext w5 W→W.cell? ⟨w.heap.size+1,0,none⟩=some (.bool bY):=fun W e=>h10 W (hE5.trans e);iterate 6 (refine ⟨fun W hW _=>by go_simp;exact ⟨xR _,rfl⟩,?_⟩)
  refine ⟨fun W hW hF=>?g6,fun v6=>?_⟩
  case g6=>
   go_simp;refine (Ci (bx != bY) _ _ _ W (hq5.out.ext hW)).mono ?_;rintro e w' ⟨v,rfl,h1,h2⟩;rw [hq0.out] at h2;exact ⟨v,rfl,h1,h2.mono hsz⟩
  iterate 3 (refine ⟨fun W hW _=>by go_simp;exact ⟨xR _,rfl⟩,?_⟩)
  refine ⟨fun W hW hF=>?g11,fun v11=>fun W hW hF=>?fin⟩
  case g11=>
   clear hF;go_simp;refine (Ci bx _ _ _ W (hr5.out.ext hW)).mono ?_;rintro e w' ⟨v,rfl,h1,h2⟩;rw [hr0.out] at h2;exact ⟨v,rfl,h1,h2.mono hsz⟩
  case fin=>
   have hR11:IntO W (w.heap.size+4) v11 (X.tmod Y):=hF.1 rfl;have hQ6:IntO W (w.heap.size+4) v6 (X.tdiv Y):=hF.2.1 rfl;clear hF;have hEx:=hE5.trans hW;clear h00' h10';obtain ⟨bq,aq,nq',cq,rfl⟩:=hQ6.r.shape;obtain ⟨br,ar,nr',cr,rfl⟩:=(hR11).r.shape;have hb2:=hB2.out W hEx;have hb3:=hB3.out W hEx;have hrows:=Fe W (w.heap.size+2) (w.heap.size+3) #[.bool bq,.slice aq nq' cq] #[.bool br,.slice ar nr' cr] _ _ _ (by omega) hb2 hb3;have hQ:=(((hQ6).row (g:=w.heap.size+2) (by omega) #[.bool bq,.slice aq nq' cq]).row (g:=w.heap.size+3) (by omega) #[.bool br,.slice ar nr' cr]).mono (show w.heap.size≤w.heap.size+4 by omega);have hR:=(((hR11).row (g:=w.heap.size+2) (by omega) #[.bool bq,.slice aq nq' cq]).row (g:=w.heap.size+3) (by omega) #[.bool br,.slice ar nr' cr]).mono (show w.heap.size≤w.heap.size+4 by omega);have hEW:=mK ((((hE.trans hEx).row (show w.heap.size≤w.heap.size+2 by omega) #[.bool bq,.slice aq nq' cq])).row (show w.heap.size≤w.heap.size+3 by omega) #[.bool br,.slice ar nr' cr]);replace hQ:=mK hQ;replace hR:=mK hR;replace hrows:=mK hrows;replace hb2:=mK hb2;clear h00 h01 h10 h11 hb3;go_simp
   go_wp2_with (first
    | (refine wpList_store_row rfl 26 (.tmp 4) (.tmp 63) rfl (w.heap.size+2) #[.bool bq,.slice aq nq' cq] rfl rfl 26 _ hb2.out (by kernel_rfl) rfl (by kernel_rfl) ?_)
    | (refine wpList_store_row rfl 26 (.tmp 5) (.tmp 67) rfl (w.heap.size+3) #[.bool br,.slice ar nr' cr] rfl rfl 26 _ hrows.out.2.2 (by kernel_rfl) rfl (by kernel_rfl) ?_))
   exact bodyPost_ret (Gz rfl _ _ (w.heap.size+2) (w.heap.size+3) 26 #[.bool bq,.slice aq nq' cq] #[.bool br,.slice ar nr' cr] _ rfl rfl hrows.out.1 hrows.out.2.1 Tryz.underlying26 rfl (by kernel_rfl) (by kernel_rfl)) rfl ⟨_,_,rfl,hEW.out,hQ.out,hR.out⟩
theorem Aca (v1 v2:Value)(X Y:Int)(w:World)(hX:nl X≤1073741824)(hY:nl Y≤1073741824)(hY0:Y≠0)(h1:IntR w v1 X)(h2:IntR w v2 Y) :
  Calls Tryz.prog 227 #[v1,v2] w fun e w'=>∃ q r,e=.returned (.tuple #[q,r])∧Ext w w'∧IntO w' w.heap.size q (X.tdiv Y)∧IntO w' w.heap.size r (X.tmod Y):=by
 obtain ⟨s1,rfl,a1,c1,rfl,_,r1⟩:=h1;obtain ⟨s2,rfl,a2,c2,rfl,_,r2⟩:=h2;by_cases hlt:X.natAbs<Y.natAbs
 ·exact Si _ _ a1 a2 c1 c2 X Y w hX hY hlt rfl r1 r2
 ·by_cases h1:Y.natAbs<4294967296
  ·exact Uv _ _ a1 a2 c1 c2 X Y w hX hlt hY0 h1 rfl rfl r1 r2
  ·exact Sh _ _ a1 a2 c1 c2 X Y w hX hY hlt (by omega) rfl rfl r1 r2
end Go.Proofs.YtlknpnommcohkaaGreatDoor
namespace Go.Proofs.YtlknpnommcohkaaGreatDoor.Aloof
set_option maxRecDepth 100000
open Go Go.RowKit Go.Proofs.YtlknpnommcohkaaGreatDoor
def freeSteps (P:Program)(l0:List Oper)(R:World→World→Prop)(w0:World)(Q:Exit→Act→World→Prop):Nat→List FSpec→List Oper→Act→List (Nat×FSpec×Value)→Prop
 | _,[],l,a,F=>∀ W,R w0 W→Bx (fun _=>true) W F→Mr F→wpList P l0.toArray Q l a W
 | _,_::_,[],_,_=>False
 | k,.val c::ss,o::l,a,F=>
  (∀ W,R w0 W→Bx (leans l0 o) W F→if Region.wanted o (yielded l0.toArray a.tmps) then Da P (fun W' v=>R W W'∧v=c) ((execOp a.eval o).run P W) else undef=c) ∧
   freeSteps P l0 R w0 Q (k+1) ss l (a.put o.dst c) F
 | k,.pred Φ::ss,o::l,a,F=>
  (∀ W,R w0 W→Bx (leans l0 o) W F→if Region.wanted o (yielded l0.toArray a.tmps) then Da P (fun W' v=>R W W'∧Φ W' v) ((execOp a.eval o).run P W) else Φ W undef) ∧
   ∀ v,freeSteps P l0 R w0 Q (k+1) ss l (a.put o.dst v) ((k,.pred Φ,v)::F)
 | k,.fresh Φ::ss,o::l,a,F=>
  (∀ W,R w0 W→Bx (leans l0 o) W F→if Region.wanted o (yielded l0.toArray a.tmps) then Da P (fun W' v=>R W W'∧Φ W' v∧∀ g∈blks v,W.heap.size≤g∧g<W'.heap.size) ((execOp a.eval o).run P W) else False) ∧
   ∀ v,freeSteps P l0 R w0 Q (k+1) ss l (a.put o.dst v) ((k,.fresh Φ,v)::F)
section
variable {P:Program} {l0:List Oper} {R:World→World→Prop} {Q:Exit→Act→World→Prop}
theorem Dv {w0:World}{N:Nat}:∀ {ss:List FSpec} {k:Nat} {l:List Oper} {a:Act} {F:List (Nat×FSpec×Value)},k+ss.length≤N→freeSteps P l0 R w0 Q k ss l a F→Bk P l0 R R (R w0) (R w0) N Q k ss l a F
 | [],_,_,_,_,_,h=>h
 | s::ss,k,[],_,_,_,h=>by cases s<;>exact h
 | .val c::ss,k,o::l,a,F,hN,h=>by
  simp only [List.length_cons] at hN
  simp only [freeSteps] at h
  exact ⟨Ni (by omega) fun W hW hF=>h.1 W (hW.elim id id) hF,Dv (by omega) h.2⟩
 | .pred Φ::ss,k,o::l,a,F,hN,h=>by
  simp only [List.length_cons] at hN
  simp only [freeSteps] at h
  exact ⟨Lp (by omega) fun W hW hF=>h.1 W (hW.elim id id) hF,fun v=>Dv (by omega) (h.2 v)⟩
 | .fresh Φ::ss,k,o::l,a,F,hN,h=>by
  simp only [List.length_cons] at hN
  simp only [freeSteps] at h
  refine ⟨?_,fun v=>Dv (by omega) (h.2 v)⟩
  unfold Ib
  rw [if_neg (by omega)]
  intro W hW hF
  have h1:=h.1 W (hW.elim id id) hF
  split
  ·rename_i hw
   rw [if_pos hw] at h1
   exact h1
  ·rename_i hw
   rw [if_neg hw] at h1
   exact h1.elim
theorem region_free {id:Nat}{l:List Oper}{a:Act}{w:World}(R:World→World→Prop)(specs:List FSpec)(hm:P.follows .mixedOrders=true)(hok:Go.Proofs.YtlknpnommcohkaaGreatDoor.okFree specs.length a.tmps.size l=true)
  (hrf:∀ a,R a a) (htr:∀ a b c,R a b→R b c→R a c) (hdr:∀ a,R a a.drew) (hst:∀ s∈specs,∀ W W' v,R W W'→s.ok W v→s.ok W' v)
  (h:freeSteps P l R w Q 0 specs l a []):(Code.region id l.toArray true).wp P Q a w:=by
 rw [Go.Proofs.YtlknpnommcohkaaGreatDoor.okFree,Bool.and_eq_true] at hok;have _:=hrf;exact Qz [] R R (R w) (R w) specs.length specs hm hok.1 (.inr fun _ h=>h) (fun _ h=>by cases h) (hdr w) (fun _ _ h k=>htr _ _ _ k h) (fun _ _ h k=>htr _ _ _ k h) hst (If hst) (Om hok.2) (Dv (by omega) h)
end
abbrev FSpec:=Go.Proofs.YtlknpnommcohkaaGreatDoor.FSpec
end Go.Proofs.YtlknpnommcohkaaGreatDoor.Aloof
namespace Go.Proofs.YtlknpnommcohkaaGreatDoor.Fresh
set_option maxRecDepth 100000
open Go Go.RowKit Go.Proofs.YtlknpnommcohkaaGreatDoor
abbrev FSpec:=Go.Proofs.YtlknpnommcohkaaGreatDoor.FSpec
abbrev okFree:=Go.Proofs.YtlknpnommcohkaaGreatDoor.okFree
abbrev StableAll:=@Go.Proofs.YtlknpnommcohkaaGreatDoor.StableAll
abbrev freeSteps:=@Aloof.freeSteps
theorem stable_vals {R:World→World→Prop}{ss:List Go.Proofs.YtlknpnommcohkaaGreatDoor.FSpec}(c:Value)(h:StableAll R ss):StableAll R (.val c::ss):=Go.Proofs.YtlknpnommcohkaaGreatDoor.stable_vals c h
end Go.Proofs.YtlknpnommcohkaaGreatDoor.Fresh
namespace Go.Proofs.YtlknpnommcohkaaGreatDoor
set_option maxRecDepth 100000
open Go Go.RowKit Go.Proofs
theorem Pb {id:Nat}{l:List Oper}{a:Act}{w:World}{Q:Exit→Act→World→Prop}(specs:List Fresh.FSpec)(hok:Fresh.okFree specs.length a.tmps.size l=true)(hst:Fresh.StableAll Ext specs)
  (h:Fresh.freeSteps Tryz.prog l Ext w Q 0 specs l a []):(Code.region id l.toArray true).wp Tryz.prog Q a w:=
 Aloof.region_free Ext specs mixed hok xR (fun _ _ _=>Ext.trans) (fun w=>(xR w).dr) (Fy hst) h
def VarAt (b:Nat)(cs:Array Value)(T:TypeId)(W:World)(v:Value):Prop:=∃ g,v=.pointer (some ⟨g,0,none⟩)∧b≤g∧W.heap[g]? = some (.cells cs T (0,0))
theorem VarAt.ext {b:Nat}{cs:Array Value}{T:TypeId}{W W':World}{v:Value}(h:VarAt b cs T W v)(e:Ext W W'):VarAt b cs T W' v:=by
 obtain ⟨g,h1,h2,h3⟩:=h;exact ⟨g,h1,h2,e.blk h3⟩
theorem Sd {ss:List Fresh.FSpec}(b:Nat)(x:Int)(h:Fresh.StableAll Ext ss):Fresh.StableAll Ext (.pred (fun W v=>IntO W b v x)::ss):=⟨fun _ _ _ e h=>IntO.ext h e,h⟩
theorem Ws {ss:List Fresh.FSpec}(b:Nat)(cs:Array Value)(T:TypeId)(h:Fresh.StableAll Ext ss):Fresh.StableAll Ext (.fresh (VarAt b cs T)::ss):=
 ⟨fun _ _ _ e h=>⟨VarAt.ext h.1 e,fun g hg=>Nat.lt_of_lt_of_le (h.2 g hg) e.size⟩,h⟩
theorem Wd {b:Nat}{cs:Array Value}{T:TypeId}(W:World)(hb:b≤W.heap.size):Ext W (W.alloc (.cells cs T))∧VarAt b cs T (W.alloc (.cells cs T)) (.pointer (some ⟨W.heap.size,0,none⟩)) ∧
  ∀ g∈Aloof.blks (.pointer (some ⟨W.heap.size,0,none⟩)),W.heap.size≤g∧g<W.heap.size+1:=
 ⟨(xR W).al _,⟨_,rfl,hb,heap_alloc_new W _⟩,fun g hg=>by
  have:g=W.heap.size:=by simpa [Aloof.blks,Aloof.blk1,Value.cells] using hg
  omega⟩
theorem Wz (g:Nat):g∈Aloof.blks (.pointer (some ⟨g,0,none⟩)):=by simp [Aloof.blks,Aloof.blk1,Value.cells]
end Go.Proofs.YtlknpnommcohkaaGreatDoor
