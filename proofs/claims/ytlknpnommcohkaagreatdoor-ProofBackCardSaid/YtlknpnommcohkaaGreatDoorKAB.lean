/-
  exact: bits.Add32, bits.Sub32, add, sub. exact: add, sub. exact: Plus. exact: Of, Sign, Check, Cmp, Minus. exact: Times. exact: Div32, short. exact: short. exact: up. exact: up, walked. exact: less: the plain law. exact: less, walked. exact: divide: the plain law of one digit and of all.
-/
import Derived.Test.YtlknpnommcohkaaGreatDoorKAA
import Derived.Deep.AppendLies
set_option maxHeartbeats 6400000
namespace Go.Proofs.YtlknpnommcohkaaGreatDoor
set_option maxRecDepth 100000
open Go Go.RowKit Go.Proofs
theorem Jn (x y z:Nat)(w:World)(hx:x<4294967296)(hy:y<4294967296)(hz:z≤1) :
  Calls Tryz.prog 307 #[.int .u32 x,.int .u32 y,.int .u32 z] w fun e w'=>e=.returned (.tuple #[.int .u32 ((x+y+z)%4294967296:Nat),.int .u32 ((x+y+z)/4294967296:Nat)])∧w=w':=by
 go_enter Tryz.func307,Tryz.ntmps307;go_wp2_with fail;go_ret2;refine ⟨?_,rfl⟩;have e1:(((x+y+z)%4294967296:Nat):Int)=((x:Int)+y+z)%4294967296:=by omega
 have e2:(((x+y+z)/4294967296:Nat):Int)=((x:Int)+y+z)/4294967296:=by omega
 exact Pa e1.symm e2.symm
theorem Gc (n:Int)(h₀:0≤n)(h₁:n<2 ^ 32):IntKind.u32.wrap n=n:=by rw [IntKind.wrap_u32];omega
theorem and32 (a b:Nat)(ha:a<4294967296)(hb:b<4294967296):bits .and .u32 a b=((a &&& b:Nat):Int):=(bits_nat .u32 32 (by decide) Gc a b ha hb).1
theorem or32 (a b:Nat)(ha:a<4294967296)(hb:b<4294967296):bits .or .u32 a b=((a ||| b:Nat):Int):=(bits_nat .u32 32 (by decide) Gc a b ha hb).2
theorem xor32 (a b:Nat)(ha:a<4294967296)(hb:b<4294967296):bits .xor .u32 a b=((a ^^^ b:Nat):Int):=by
 have e:IntKind.u32.bits=32:=rfl;have hlt:a ^^^ b<2 ^ 32:=Nat.xor_lt_two_pow (n:=32) ha hb;simp only [bits,BitVec.ofInt_natCast,BitVec.toNat_xor,BitVec.toNat_ofNat,e];rw [Nat.mod_eq_of_lt (show a<2 ^ 32 from ha),Nat.mod_eq_of_lt (show b<2 ^ 32 from hb)];exact Gc _ (Int.natCast_nonneg _) (by exact_mod_cast hlt)
theorem bit31 (a:Nat)(ha:a<4294967296):a.testBit 31=decide (2147483648≤a):=by
 rw [Nat.testBit_eq_decide_div_mod_eq];rw [decide_eq_decide];omega
theorem top32 (a:Nat)(ha:a<4294967296):a/2147483648=if a.testBit 31=true then 1 else 0:=by
 rw [bit31 a ha];by_cases h:2147483648≤a<;>simp [h]<;>omega
theorem borrow32 (x y z:Nat)(hx:x<4294967296)(hy:y<4294967296)(hz:z≤1) :
  (((4294967295 ^^^ x) &&& y) ||| ((4294967295 ^^^ (x ^^^ y)) &&& ((x+4294967296-y-z)%4294967296)))/2147483648=1-(x+4294967296-y-z)/4294967296:=by
 obtain ⟨d,hd⟩:=nmE ((x+4294967296-y-z)%4294967296);rw [←hd];have hdl:d<4294967296:=by omega
 have a1:(4294967295 ^^^ x) &&& y<2 ^ 32:=Nat.and_lt_two_pow _ hy;have a2:(4294967295 ^^^ (x ^^^ y)) &&& d<2 ^ 32:=Nat.and_lt_two_pow _ hdl;rw [top32 _ (Nat.or_lt_two_pow a1 a2)];simp only [Nat.testBit_or,Nat.testBit_and,Nat.testBit_xor,bit31 x hx,bit31 y hy,bit31 d hdl,show Nat.testBit 4294967295 31=true from by decide];by_cases h1:2147483648≤x<;>by_cases h2:2147483648≤y<;>by_cases h3:2147483648≤d<;>simp [h1,h2,h3]<;>omega
theorem Vs (x y z:Nat)(w:World)(hx:x<4294967296)(hy:y<4294967296)(hz:z≤1) :
  Calls Tryz.prog 313 #[.int .u32 x,.int .u32 y,.int .u32 z] w fun e w'=>e=.returned (.tuple #[.int .u32 ((x+4294967296-y-z)%4294967296:Nat),.int .u32 (1-(x+4294967296-y-z)/4294967296:Nat)])∧w=w':=by
 go_enter Tryz.func313,Tryz.ntmps313;go_wp2_with fail;go_ret2;refine ⟨?_,rfl⟩;have m:IntKind.u32.max=((4294967295:Nat):Int):=rfl;have d:((x:Int)-y-z)%4294967296=(((x+4294967296-y-z)%4294967296:Nat):Int):=by omega
 have dl:(x+4294967296-y-z)%4294967296<4294967296:=Nat.mod_lt _ (by omega);have l1:4294967295 ^^^ x<2 ^ 32:=Nat.xor_lt_two_pow (n:=32) (by omega) hx;have l2:x ^^^ y<2 ^ 32:=Nat.xor_lt_two_pow (n:=32) hx hy;have l3:4294967295 ^^^ (x ^^^ y)<2 ^ 32:=Nat.xor_lt_two_pow (n:=32) (by omega) l2
 have b:bits .or .u32 (bits .and .u32 (bits .xor .u32 IntKind.u32.max x) y) (bits .and .u32 (bits .xor .u32 IntKind.u32.max (bits .xor .u32 x y)) (((x:Int)-y-z)%4294967296))/2147483648 =
   ((1-(x+4294967296-y-z)/4294967296:Nat):Int):=by
  rw [m,d,xor32 _ _ (by omega) hx,and32 _ _ l1 hy,xor32 _ _ hx hy,xor32 _ _ (by omega) l2,and32 _ _ l3 dl,or32 _ _ (Nat.and_lt_two_pow (n:=32) _ hy) (Nat.and_lt_two_pow (n:=32) _ dl),←borrow32 x y z hx hy hz];simp
 exact Pa d b
theorem Dm (q:List Nat)(k v:Nat):(limV q).set k (.int .u32 (v:Int))=limV (q.set k v):=by simp [limV,List.map_set]
theorem Bo (q:List Nat)(k v:Nat):(limV q).toArray.setIfInBounds k (.int .u32 (v:Int))=(limV (q.set k v)).toArray:=by
 rw [←Dm];simp
theorem Cn {q:List Nat}(h:OkL q){k v:Nat}(hv:v<4294967296):OkL (q.set k v):=by
 intro x hx;rcases List.mem_or_eq_of_mem_set hx with h1|h1
 ·exact h x h1
 ·omega
theorem take_set (q:List Nat)(k v:Nat)(hk:k<q.length):(q.set k v).take (k+1)=q.take k++[v]:=by
 rw [List.take_succ_eq_append_getElem (by simpa using hk)];simp [List.take_set_of_le]
theorem Bs (q:List Nat)(k v:Nat)(hk:k<q.length):val ((q.set k v).take (k+1))=val (q.take k)+4294967296 ^ k*v:=by
 rw [take_set q k v hk,Dt];simp [val,Nat.min_eq_left (Nat.le_of_lt hk)]
theorem make32 (n:Nat)(w:World)(h:n≤70368744177664):(Instr.makeSlice 24 (.int .i64 n) (.int .i64 n)).run Tryz.prog w=.ok (.slice (some ⟨w.heap.size,0,none⟩) n n) (w.alloc (.cells (limV (List.replicate n 0)).toArray 150)):=by
 obtain ⟨i0,hi,hz0,hz1,hz2⟩:=info_parts Im;have:=run_make w 24 150 i0 _ Jr hi hz0 .i64 .i64 n n (by omega) (by omega) (by rw [hz2];omega) (by omega);rw [this,hz1]
 have e:madeCells #[Value.int IntKind.u32 0] (n*1)=(limV (List.replicate n 0)).toArray:=by
  simp [madeCells,limV,Array.ext_iff,Nat.mod_one]
 simp only [Int.toNat_natCast,Value.cells,e]
theorem Cw {w:World}{q:List Nat}(hl:q.length≤4294967296):MagO (w.alloc (.cells (limV q).toArray 150)) w.heap.size (.slice (some ⟨w.heap.size,0,none⟩) q.length q.length) q:=by
 refine ⟨by simp [limV],.inr ⟨w.heap.size,q.length,_,rfl,nR _,heap_alloc_new w _,nR _,by unfold maxLen;omega,by simp [limV],?_⟩⟩;rw [Nat.mul_one,List.take_of_length_le (by simp [limV])]
def Adding (l m q:List Nat)(k c:Nat):Prop:=q.length=l.length+1∧OkL q∧c≤1∧val (q.take k)+4294967296 ^ k*c=val (l.take k)+val (m.take k)
theorem Km (m:List Nat)(k:Nat):val (m.take (k+1))=val (m.take k)+4294967296 ^ k*(if k<m.length then m.getD k 0 else 0):=by
 by_cases h:k<m.length
 ·rw [if_pos h];exact Ao m k h
 ·rw [if_neg h,List.take_of_length_le (by omega),List.take_of_length_le (by omega)];simp
theorem Fx {l m q:List Nat}{k c y:Nat}(h:Adding l m q k c)(hl:OkL l)(hm:OkL m)(hk:k<l.length)(hy:y=if k<m.length then m.getD k 0 else 0) :
  Adding l m (q.set k ((l.getD k 0+y+c)%4294967296)) (k+1) ((l.getD k 0+y+c)/4294967296):=by
 obtain ⟨h1,h2,h3,h4⟩:=h;have hx:=As hl k
 have hy2:y<4294967296:=by
  rw [hy];split
  ·exact As hm k
  ·omega
 refine ⟨by simpa using h1,Cn h2 (Nat.mod_lt _ (by omega)),by omega,?_⟩;rw [Bs _ _ _ (by omega),Ao l k hk,Km m k,←hy,Nat.pow_succ];have e:l.getD k 0+y+c=(l.getD k 0+y+c)%4294967296+4294967296*((l.getD k 0+y+c)/4294967296):=(Nat.mod_add_div _ _).symm;generalize (l.getD k 0+y+c)%4294967296=r at *;generalize (l.getD k 0+y+c)/4294967296=s at *;generalize 4294967296 ^ k=p at *;have e2:p*(l.getD k 0+y+c)=p*(r+4294967296*s):=by rw [e]
 simp only [Nat.mul_add] at e2;rw [←Nat.mul_assoc] at e2;omega
theorem Jm (l m:List Nat):Adding l m (List.replicate (l.length+1) 0) 0 0:=
 ⟨by simp,fun x hx=>by rw [List.eq_of_mem_replicate hx];omega,by omega,by simp [val]⟩
theorem Ms {l m q:List Nat}{c:Nat}(h:Adding l m q l.length c)(hm:m.length≤l.length):(q.set l.length c).length=l.length+1∧OkL (q.set l.length c)∧val (q.set l.length c)=val l+val m:=by
 obtain ⟨h1,h2,h3,h4⟩:=h;refine ⟨by simpa using h1,Cn h2 (by omega),?_⟩;have:=Bs q l.length c (by omega);rw [List.take_of_length_le (by simp;omega)] at this;rw [this,h4,List.take_length,List.take_of_length_le hm]
theorem Ey {q:List Nat}{k:Nat}(h:k<q.length):(limV q).toArray[k]? = some (.int .u32 ((q.getD k 0:Nat):Int)):=by simp [limV,h]
theorem Ga {w:World}{b off:Nat}{l:List Nat}(hc:∀ j,j<(limV l).length→w.cell? ⟨b,off+j,none⟩=some ((limV l).getD j undef)){k:Nat}(hk:k<l.length) :
  w.cell? ⟨b,off+k,none⟩=some (.int .u32 ((l.getD k 0:Nat):Int)):=by
 rw [hc k (by rw [Cc];exact hk),Dg _ _ hk]
theorem Ag5 (a a':Option Addr)(c c':Nat)(l m:List Nat)(w:World)(hl:l.length≤2147483648)(hm:m.length≤2147483648)(okl:OkL l)(okm:OkL m)
  (h:Row w a (limV l)) (h':Row w a' (limV m)) :
  Calls Tryz.prog 294 #[.slice a l.length c,.slice a' m.length c'] w fun e w'=>∃ v r,e=.returned v∧MagO w' w.heap.size v r∧OkL r∧r.length=max l.length m.length+1∧val r=val l+val m∧Ext w w':=by
 obtain ⟨b,off,ha,hc⟩:=h;obtain ⟨b',off',ha',hc'⟩:=h';replace ha:=mK ha;replace hc:=mK hc;replace ha':=mK ha';replace hc':=mK hc';by_cases hlt:l.length<m.length
 ·have hlt2:((l.length:Int)<m.length):=by omega
  have hmk:=fun w=>make32 (m.length+1) w (by omega);rw [show (((m.length+1:Nat)):Int)=(m.length:Int)+1 by omega] at hmk;have hst:=mK (Jm m l);go_enter Tryz.func294,Tryz.ntmps294;go_wp2_with fail;go_loopw [22,6] (fun i s wr=>∃ k cr q,k≤m.length∧i=.int .i64 (k:Nat)∧s=.int .u32 (cr:Nat)∧wr=w.alloc (.cells (limV q).toArray 150)∧Adding m l q k cr) (fun i _ _=>m.length-(intOf i).toNat)
  case atStart=>exact ⟨0,0,_,Nat.zero_le _,rfl,rfl,rfl,hst.out⟩
  case round=>
   obtain ⟨k,cr,q,hk,rfl,rfl,rfl,had⟩:=hrel;have hq1:=had.1;have hcr:=had.2.2.1;by_cases hkl:k<m.length
   ·have h1:=fun o=>((xR w).al o).cell (Ga hc'.out hkl)
    have hA:=ha'.out (Co hkl);have hxl:=As okm k;have hold:=Ey (q:=q) (k:=k) (by omega);by_cases hkm:k<l.length
    ·have h2:=fun o=>((xR w).al o).cell (Ga hc.out hkm)
     have hA':=ha.out (Co hkm);have hyl:=As okl k;have hnext:=mK (Fx (y:=l.getD k 0) had okm okl hkl (by rw [if_pos hkm]));rw [hA,hA'];replace hA:=mK hA;replace hA':=mK hA';replace had:=mK had;have hset:=mK (Bo q k ((m.getD k 0+l.getD k 0+cr)%4294967296));generalize m.getD k 0=x at *;generalize l.getD k 0=y at *;generalize hArr:(limV q).toArray=arr at *;replace hArr:=mK hArr;go_wp2_with (go_at_call 307;refine (Jn x y cr _ (by assumption) (by assumption) (by assumption)).mono ?_;rintro e w' ⟨rfl,rfl⟩);go_roundw
     case rel=>exact ⟨k+1,_,_,by omega,by go_num,rfl,by rw [←hset.out];simp,hnext.out⟩
     case measure=>simp [intOf]<;>omega
    ·have hnext:=mK (Fx (y:=0) had okm okl hkl (by rw [if_neg hkm]))
     have hyl:0<4294967296:=by omega
     rw [hA];replace hA:=mK hA;replace had:=mK had;have hset:=mK (Bo q k ((m.getD k 0+0+cr)%4294967296));generalize m.getD k 0=x at *;obtain ⟨y,hy⟩:∃ y,y=0:=⟨0,rfl⟩
     generalize hArr:(limV q).toArray=arr at *;replace hArr:=mK hArr;clear hy;go_wp2_with (go_at_call 307;refine (Jn x 0 cr _ (by assumption) (by assumption) (by assumption)).mono ?_;rintro e w' ⟨rfl,rfl⟩);go_roundw
     case rel=>exact ⟨k+1,_,_,by omega,by go_num,rfl,by rw [←hset.out];simp,hnext.out⟩
     case measure=>simp [intOf]<;>omega
   ·obtain rfl:k=m.length:=by omega
    have hend:=mK (Ms had (by omega));have hold:=Ey (q:=q) (k:=m.length) (by omega);have hset:=mK (Bo q m.length cr);replace had:=mK had;generalize hArr:(limV q).toArray=arr at *;replace hArr:=mK hArr;go_wp2_with fail;go_ret;have hb:=Cw (w:=w) (q:=q.set m.length cr) (by rw [hend.out.1];omega);rw [hend.out.1,←hset.out] at hb;exact ⟨_,_,rfl,hb,hend.out.2.1,by rw [hend.out.1];omega,by rw [hend.out.2.2];try omega,(xR w).al _⟩
 ·have hlt2:¬((l.length:Int)<m.length):=by omega
  have hmk:=fun w=>make32 (l.length+1) w (by omega);rw [show (((l.length+1:Nat)):Int)=(l.length:Int)+1 by omega] at hmk;have hst:=mK (Jm l m);go_enter Tryz.func294,Tryz.ntmps294;go_wp2_with fail;go_loopw [22,6] (fun i s wr=>∃ k cr q,k≤l.length∧i=.int .i64 (k:Nat)∧s=.int .u32 (cr:Nat)∧wr=w.alloc (.cells (limV q).toArray 150)∧Adding l m q k cr) (fun i _ _=>l.length-(intOf i).toNat)
  case atStart=>exact ⟨0,0,_,Nat.zero_le _,rfl,rfl,rfl,hst.out⟩
  case round=>
   obtain ⟨k,cr,q,hk,rfl,rfl,rfl,had⟩:=hrel;have hq1:=had.1;have hcr:=had.2.2.1;by_cases hkl:k<l.length
   ·have h1:=fun o=>((xR w).al o).cell (Ga hc.out hkl)
    have hA:=ha.out (Co hkl);have hxl:=As okl k;have hold:=Ey (q:=q) (k:=k) (by omega);by_cases hkm:k<m.length
    ·have h2:=fun o=>((xR w).al o).cell (Ga hc'.out hkm)
     have hA':=ha'.out (Co hkm);have hyl:=As okm k;have hnext:=mK (Fx (y:=m.getD k 0) had okl okm hkl (by rw [if_pos hkm]));rw [hA,hA'];replace hA:=mK hA;replace hA':=mK hA';replace had:=mK had;have hset:=mK (Bo q k ((l.getD k 0+m.getD k 0+cr)%4294967296));generalize l.getD k 0=x at *;generalize m.getD k 0=y at *;generalize hArr:(limV q).toArray=arr at *;replace hArr:=mK hArr;go_wp2_with (go_at_call 307;refine (Jn x y cr _ (by assumption) (by assumption) (by assumption)).mono ?_;rintro e w' ⟨rfl,rfl⟩);go_roundw
     case rel=>exact ⟨k+1,_,_,by omega,by go_num,rfl,by rw [←hset.out];simp,hnext.out⟩
     case measure=>simp [intOf]<;>omega
    ·have hnext:=mK (Fx (y:=0) had okl okm hkl (by rw [if_neg hkm]))
     have hyl:0<4294967296:=by omega
     rw [hA];replace hA:=mK hA;replace had:=mK had;have hset:=mK (Bo q k ((l.getD k 0+0+cr)%4294967296));generalize l.getD k 0=x at *;obtain ⟨y,hy⟩:∃ y,y=0:=⟨0,rfl⟩
     generalize hArr:(limV q).toArray=arr at *;replace hArr:=mK hArr;clear hy;go_wp2_with (go_at_call 307;refine (Jn x 0 cr _ (by assumption) (by assumption) (by assumption)).mono ?_;rintro e w' ⟨rfl,rfl⟩);go_roundw
     case rel=>exact ⟨k+1,_,_,by omega,by go_num,rfl,by rw [←hset.out];simp,hnext.out⟩
     case measure=>simp [intOf]<;>omega
   ·obtain rfl:k=l.length:=by omega
    have hend:=mK (Ms had (by omega));have hold:=Ey (q:=q) (k:=l.length) (by omega);have hset:=mK (Bo q l.length cr);replace had:=mK had;generalize hArr:(limV q).toArray=arr at *;replace hArr:=mK hArr;go_wp2_with fail;go_ret;have hb:=Cw (w:=w) (q:=q.set l.length cr) (by rw [hend.out.1];omega);rw [hend.out.1,←hset.out] at hb;exact ⟨_,_,rfl,hb,hend.out.2.1,by rw [hend.out.1];omega,by rw [hend.out.2.2];try omega,(xR w).al _⟩
def Subbing (l m q:List Nat)(k c:Nat):Prop:=q.length=l.length∧OkL q∧c≤1∧val (q.take k)+val (m.take k)=val (l.take k)+4294967296 ^ k*c
theorem Mu (l m:List Nat):Subbing l m (List.replicate l.length 0) 0 0:=
 ⟨by simp,fun x hx=>by rw [List.eq_of_mem_replicate hx];omega,by omega,by simp [val]⟩
theorem It {l m q:List Nat}{k c y:Nat}(h:Subbing l m q k c)(hl:OkL l)(hm:OkL m)(hk:k<l.length)(hy:y=if k<m.length then m.getD k 0 else 0) :
  Subbing l m (q.set k ((l.getD k 0+4294967296-y-c)%4294967296)) (k+1) (1-(l.getD k 0+4294967296-y-c)/4294967296):=by
 obtain ⟨h1,h2,h3,h4⟩:=h;have hx:=As hl k
 have hy2:y<4294967296:=by
  rw [hy];split
  ·exact As hm k
  ·omega
 refine ⟨by simpa using h1,Cn h2 (Nat.mod_lt _ (by omega)),by omega,?_⟩;rw [Bs _ _ _ (by omega),Ao l k hk,Km m k,←hy,Nat.pow_succ];have e:(l.getD k 0+4294967296-y-c)%4294967296+y+c=l.getD k 0+4294967296*(1-(l.getD k 0+4294967296-y-c)/4294967296):=by omega
 generalize (l.getD k 0+4294967296-y-c)%4294967296=r at *;generalize 1-(l.getD k 0+4294967296-y-c)/4294967296=s at *;generalize 4294967296 ^ k=p at *;have e2:p*(r+y+c)=p*(l.getD k 0+4294967296*s):=by rw [e]
 simp only [Nat.mul_add] at e2;rw [←Nat.mul_assoc] at e2;omega
theorem Qs {l m q:List Nat}{c:Nat}(h:Subbing l m q l.length c)(hm:m.length≤l.length)(hv:val m≤val l):val q=val l-val m:=by
 obtain ⟨h1,h2,h3,h4⟩:=h;rw [List.take_length,List.take_of_length_le (by omega),List.take_of_length_le hm] at h4;have hq:=Cs h2;rw [h1] at hq;have:c=0∨c=1:=by omega
 rcases this with rfl|rfl<;>simp at h4<;>omega
theorem Ago (a a':Option Addr)(c c':Nat)(l m:List Nat)(w:World)(hl:l.length≤2147483648)(hml:m.length≤l.length)(okl:OkL l)(okm:OkL m)(hv:val m≤val l)
  (h:Row w a (limV l)) (h':Row w a' (limV m)) :
  Calls Tryz.prog 295 #[.slice a l.length c,.slice a' m.length c'] w fun e w'=>∃ v,e=.returned v∧MagO w' w.heap.size v (lim (val l-val m))∧Ext w w':=by
 obtain ⟨b,off,ha,hc⟩:=h;obtain ⟨b',off',ha',hc'⟩:=h';replace ha:=mK ha;replace hc:=mK hc;replace ha':=mK ha';replace hc':=mK hc';replace hv:=mK hv;have hmk:=fun w=>make32 l.length w (by omega);have hst:=mK (Mu l m);go_enter Tryz.func295,Tryz.ntmps295;go_wp2_with fail;go_loopw [14,6] (fun i s wr=>∃ k cr q,k≤l.length∧i=.int .i64 (k:Nat)∧s=.int .u32 (cr:Nat)∧wr=w.alloc (.cells (limV q).toArray 150)∧Subbing l m q k cr) (fun i _ _=>l.length-(intOf i).toNat)
 case atStart=>exact ⟨0,0,_,Nat.zero_le _,rfl,rfl,rfl,hst.out⟩
 case round=>
  obtain ⟨k,cr,q,hk,rfl,rfl,rfl,had⟩:=hrel;have hq1:=had.1;have hcr:=had.2.2.1;by_cases hkl:k<l.length
  ·have h1:=fun o=>((xR w).al o).cell (Ga hc.out hkl)
   have hA:=ha.out (Co hkl);have hxl:=As okl k;have hold:=Ey (q:=q) (k:=k) (by omega);by_cases hkm:k<m.length
   ·have h2:=fun o=>((xR w).al o).cell (Ga hc'.out hkm)
    have hA':=ha'.out (Co hkm);have hyl:=As okm k;have hnext:=mK (It (y:=m.getD k 0) had okl okm hkl (by rw [if_pos hkm]));rw [hA,hA'];replace hA:=mK hA;replace hA':=mK hA';replace had:=mK had;have hset:=mK (Bo q k ((l.getD k 0+4294967296-m.getD k 0-cr)%4294967296));generalize l.getD k 0=x at *;generalize m.getD k 0=y at *;generalize hArr:(limV q).toArray=arr at *;replace hArr:=mK hArr;obtain ⟨r,hr⟩:=nmE ((x+4294967296-y-cr)%4294967296);obtain ⟨s,hs⟩:=nmE (1-(x+4294967296-y-cr)/4294967296);have hcall:=fun w=>Vs x y cr w hxl hyl hcr;rw [←hr,←hs] at hcall;rw [←hr] at hset;rw [←hr,←hs] at hnext;have hs1:s≤1:=by omega
    clear hr hs;replace hcall:=mK hcall;go_wp2_with (go_at_call 313;refine (hcall.out _).mono ?_;rintro e w' ⟨rfl,rfl⟩);go_roundw
    case rel=>exact ⟨k+1,_,_,by omega,by go_num,rfl,by rw [←hset.out],hnext.out⟩
    case measure=>simp [intOf]<;>omega
   ·have hnext:=mK (It (y:=0) had okl okm hkl (by rw [if_neg hkm]))
    rw [hA];replace hA:=mK hA;replace had:=mK had;have hset:=mK (Bo q k ((l.getD k 0+4294967296-0-cr)%4294967296));generalize l.getD k 0=x at *;generalize hArr:(limV q).toArray=arr at *;replace hArr:=mK hArr;obtain ⟨r,hr⟩:=nmE ((x+4294967296-0-cr)%4294967296);obtain ⟨s,hs⟩:=nmE (1-(x+4294967296-0-cr)/4294967296);have hcall:=fun w=>Vs x 0 cr w hxl (by omega) hcr;rw [←hr,←hs] at hcall;rw [←hr] at hset;rw [←hr,←hs] at hnext;have hs1:s≤1:=by omega
    clear hr hs;replace hcall:=mK hcall;go_wp2_with (go_at_call 313;refine (hcall.out _).mono ?_;rintro e w' ⟨rfl,rfl⟩);go_roundw
    case rel=>exact ⟨k+1,_,_,by omega,by go_num,rfl,by rw [←hset.out],hnext.out⟩
    case measure=>simp [intOf]<;>omega
  ·obtain rfl:k=l.length:=by omega
   have hend:=Qs had hml hv.out;have hokq:=had.2.1;have hb:=Cw (w:=w) (q:=q) (by rw [hq1];omega);have hrow:=hb;rw [hq1] at hb hrow;obtain ⟨aa,cc,he,hle,hrow⟩:=Dw hrow;simp only [Value.slice.injEq] at he;obtain ⟨rfl,-,rfl⟩:=he;have hb2:=hb;rw [←hq1] at hb2;have hres:=(show MagO _ _ (.slice _ q.length l.length) q from by rw [hq1];exact hb).lim hokq;rw [hend] at hres;have hcall:=fun w' (e:Row w' (some ⟨w.heap.size,0,none⟩) (limV q))=>Ll (some ⟨w.heap.size,0,none⟩) q l.length w' hokq (by omega) (by omega) e;rw [hend,hq1] at hcall;replace hcall:=mK hcall;replace hres:=mK hres;replace hb:=mK hb;replace hb2:=mK hb2;replace hrow:=mK hrow;replace had:=mK had;replace hend:=mK hend;replace hq1:=mK hq1;generalize hArr:(limV q).toArray=arr at *;replace hArr:=mK hArr;go_wp2_with fail;refine (hcall.out _ hrow.out).mono ?_;rintro e w' ⟨rfl,rfl⟩;go_wp2_with fail;go_ret;exact ⟨_,rfl,hres.out,(xR w).al _⟩
theorem Aep (a a':Option Addr)(c c':Nat)(x y:Nat)(w:World)(hl:(lim x).length≤2147483648)(hm:(lim y).length≤2147483648)(h:Row w a (limV (lim x)))(h':Row w a' (limV (lim y))) :
  Calls Tryz.prog 294 #[.slice a (lim x).length c,.slice a' (lim y).length c'] w fun e w'=>∃ v,e=.returned v∧Ext w w'∧RawO w' w.heap.size v (x+y):=by
 refine (Ag5 a a' c c' (lim x) (lim y) w hl hm (By _) (By _) h h').mono ?_;rintro e w' ⟨v,r,he,h1,h2,h3,h4,h5⟩;exact ⟨v,he,h5,r,h1,h2,by omega,by rw [h4,Bn,Bn]⟩
theorem Ci (neg:Bool)(base:Nat)(s:Value)(n:Nat)(w:World)(h:RawO w base s n) :
  Calls Tryz.prog 180 #[.bool neg,s] w fun e w'=>∃ v,e=.returned v∧Ext w w'∧IntO w' base v (sg neg n):=by
 obtain ⟨r,h1,h2,h3,rfl⟩:=h;refine (Iv neg base s r w h2 h3 h1).mono ?_;rintro e w' ⟨v,he,h1,h2⟩;exact ⟨v,he,h2,h1⟩
theorem Vr (a a':Option Addr)(c c':Nat)(x y:Nat)(w:World)(hl:(lim x).length≤2147483648)(hv:y≤x)(h:Row w a (limV (lim x)))(h':Row w a' (limV (lim y))) :
  Calls Tryz.prog 295 #[.slice a (lim x).length c,.slice a' (lim y).length c'] w fun e w'=>∃ v,e=.returned v∧Ext w w'∧RawO w' w.heap.size v (x-y):=by
 refine (Ago a a' c c' (lim x) (lim y) w hl (Cq hv) (By _) (By _) (by rw [Bn,Bn];exact hv) h h').mono ?_;rintro e w' ⟨v,he,h1,h2⟩;rw [Bn,Bn] at h1;refine ⟨v,he,h2,_,h1,By _,?_,Bn _⟩;have:=Cq (Nat.sub_le x y);omega
theorem Xy (bx:Bool)(ax ay:Option Addr)(cx cy:Nat)(x y:Nat)(w:World)(hlx:(lim x).length≤1073741824)(hly:(lim y).length≤1073741824)
  (hx:Row w ax (limV (lim x))) (hy:Row w ay (limV (lim y))) :
  Calls Tryz.prog 250 #[.agg #[.bool bx,.slice ax (lim x).length cx],.agg #[.bool bx,.slice ay (lim y).length cy]] w fun e w'=>∃ v,e=.returned v∧IntO w' w.heap.size v (sg bx (x+y))∧Ext w w':=by
 have hb:(bx==bx)=true:=by simp
 replace hx:=mK hx;replace hy:=mK hy;go_enter Tryz.func250,Tryz.ntmps250;go_wp2_with fail;obtain ⟨w3,hw3⟩:=nmE (((w.alloc (.cells #[.bool bx,.slice ax (lim x).length cx] 26)).alloc (.cells #[.bool bx,.slice ay (lim y).length cy] 26)).alloc (.cells #[.bool false,.slice none 0 0] 26));have hE:=aLe3 hw3;obtain ⟨h00,h01⟩:=ceX1 (aL30 hw3);obtain ⟨h10,h11⟩:=ceX1 (aL31 hw3);have hsz:w.heap.size+3≤w3.heap.size:=by rw [hw3];simp
 have hB:=mK (fun W (e:Ext w3 W)=>e.blk (aL32 hw3));rw [←hw3];replace hw3:=mK hw3;have hz:Hid (sg bx (x+y)=sg bx (x+y)):=rfl
 apply Ak [.val _,.val _,.val _,.val _,.val _,.val _,.pred (fun W v=>RawO W w3.heap.size v (x+y)),.pred (fun W v=>IntO W w3.heap.size v (sg bx (x+y)))] (by kernel_rfl)
  (stable_vals _ (stable_vals _ (stable_vals _ (stable_vals _ (stable_vals _ (stable_vals _ (Kx _ _ (Av _ _ trivial))))))))
 ·iterate 6 (refine ⟨fun W hW _=>by go_simp;exact ⟨xR _,rfl⟩,?_⟩)
  refine ⟨fun W hW _=>?g6,fun v6=>⟨fun W hW hF=>?g7,fun v7=>fun W hW hF=>?fin⟩⟩
  case g6=>
   go_simp;refine (Aep _ _ _ _ _ _ _ (by omega) (by omega) (hx.out.ext (hE.trans hW)) (hy.out.ext (hE.trans hW))).mono ?_;rintro e w' ⟨v,rfl,h1,h2⟩;exact ⟨v,rfl,h1,h2.mono hW.size⟩
  case g7=>
   have h6:Hid (RawO W w3.heap.size v6 (x+y)):=hF.1 (by kernel_rfl);clear hF;have hs:=mK (fun neg=>Ci neg _ _ _ W h6.out);go_simp;have h9:=hs.out bx;rw [hz.out] at h9;exact h9
  case fin=>
   have h7:IntO W w3.heap.size v7 (sg bx (x+y)):=hF.1 rfl;clear hF;obtain ⟨nb,a2,n2,c2,rfl⟩:=h7.r.shape;have hBW:=hB.out W hW;have hR:IntO (W.setRow (w.heap.size+2) #[.bool nb,.slice a2 n2 c2]) w.heap.size (.agg #[.bool nb,.slice a2 n2 c2]) (sg bx (x+y)):=(h7.row (by omega) _).mono (by omega);have hEW:=mK ((hE.trans hW).row (show w.heap.size≤w.heap.size+2 by omega) #[.bool nb,.slice a2 n2 c2]);replace hR:=mK hR;clear h7 h00 h01 h10 h11;go_simp;refine wpList_store_row rfl 26 (.tmp 4) (.tmp 17) rfl (w.heap.size+2) #[.bool nb,.slice a2 n2 c2] rfl rfl 26 _ hBW (by kernel_rfl) rfl (by kernel_rfl) ?_;go_wp2_with fail;exact bodyPost_ret (results_cell_row rfl _ _ (w.heap.size+2) 26 #[.bool nb,.slice a2 n2 c2] (0,0) _ rfl (setRow_heap _ _ _ _ _ _ hBW) Tryz.underlying26 rfl (by kernel_rfl)) rfl ⟨_,rfl,hR.out,hEW.out⟩
theorem Xz (bx bY:Bool)(hne:bx≠bY)(ax ay:Option Addr)(cx cy:Nat)(x y:Nat)(z:Int)(hz1:y≤x→sg bx (x-y)=z)(hz2:¬y≤x→sg bY (y-x)=z)(w:World)(hlx:(lim x).length≤1073741824)(hly:(lim y).length≤1073741824)
  (hx:Row w ax (limV (lim x))) (hy:Row w ay (limV (lim y))) :
  Calls Tryz.prog 250 #[.agg #[.bool bx,.slice ax (lim x).length cx],.agg #[.bool bY,.slice ay (lim y).length cy]] w fun e w'=>∃ v,e=.returned v∧IntO w' w.heap.size v z∧Ext w w':=by
 have hb:(bx==bY)=false:=by simpa using hne
 replace hne:=mK hne;replace hz1:=mK hz1;replace hz2:=mK hz2;replace hx:=mK hx;replace hy:=mK hy;go_enter Tryz.func250,Tryz.ntmps250;go_wp2_with fail;obtain ⟨wb,hw3⟩:=nmE (((w.alloc (.cells #[.bool bx,.slice ax (lim x).length cx] 26)).alloc (.cells #[.bool bY,.slice ay (lim y).length cy] 26)).alloc (.cells #[.bool false,.slice none 0 0] 26));have hE:=aLe3 hw3;obtain ⟨h00,h01⟩:=ceX1 (aL30 hw3);obtain ⟨h10,h11⟩:=ceX1 (aL31 hw3);have hsz:w.heap.size+3≤wb.heap.size:=by rw [hw3];simp
 have hB:=mK (fun W (e:Ext wb W)=>e.blk (aL32 hw3));rw [←hw3];replace hw3:=mK hw3;refine (Lr _ _ _ _ _ _ _ (by omega) (by omega) (hx.out.ext hE) (hy.out.ext hE)).mono ?_;rintro e w3 ⟨r,rfl,hr,he4⟩;replace h00:=exL h00 he4;replace h01:=exL h01 he4;replace h10:=exL h10 he4;replace h11:=exL h11 he4;replace hB:=mK (fun W (e:Ext w3 W)=>hB.out W (he4.trans e));replace hsz:w.heap.size+3≤w3.heap.size:=by have:=he4.size;omega
 replace hE:=hE.trans he4;clear hw3 he4;by_cases hyx:y≤x
 ·have hr2:0≤r:=by
   have:=hr.1;omega
  have hz:=mK (hz1.out hyx);replace hr:=mK hr;replace hyx:=mK hyx;go_wp2_with fail
  apply Ak [.val _,.val _,.val _,.val _,.val _,.val _,.pred (fun W v=>RawO W w3.heap.size v (x-y)),.pred (fun W v=>IntO W w3.heap.size v (z))] (by kernel_rfl)
   (stable_vals _ (stable_vals _ (stable_vals _ (stable_vals _ (stable_vals _ (stable_vals _ (Kx _ _ (Av _ _ trivial))))))))
  ·iterate 6 (refine ⟨fun W hW _=>by go_simp;exact ⟨xR _,rfl⟩,?_⟩)
   refine ⟨fun W hW _=>?g6,fun v6=>⟨fun W hW hF=>?g7,fun v7=>fun W hW hF=>?fin⟩⟩
   case g6=>
    go_simp;refine (Vr _ _ _ _ _ _ _ (by omega) hyx.out (hx.out.ext (hE.trans hW)) (hy.out.ext (hE.trans hW))).mono ?_;rintro e w' ⟨v,rfl,h1,h2⟩;exact ⟨v,rfl,h1,h2.mono hW.size⟩
   case g7=>
    have h6:Hid (RawO W w3.heap.size v6 (x-y)):=hF.1 (by kernel_rfl);clear hF;have hs:=mK (fun neg=>Ci neg _ _ _ W h6.out);go_simp;have h9:=hs.out bx;rw [hz.out] at h9;exact h9
   case fin=>
    have h7:IntO W w3.heap.size v7 (z):=hF.1 rfl;clear hF;obtain ⟨nb,a2,n2,c2,rfl⟩:=h7.r.shape;have hBW:=hB.out W hW;have hR:IntO (W.setRow (w.heap.size+2) #[.bool nb,.slice a2 n2 c2]) w.heap.size (.agg #[.bool nb,.slice a2 n2 c2]) (z):=(h7.row (by omega) _).mono (by omega);have hEW:=mK ((hE.trans hW).row (show w.heap.size≤w.heap.size+2 by omega) #[.bool nb,.slice a2 n2 c2]);replace hR:=mK hR;clear h7 h00 h01 h10 h11;go_simp;refine wpList_store_row rfl 26 (.tmp 4) (.tmp 31) rfl (w.heap.size+2) #[.bool nb,.slice a2 n2 c2] rfl rfl 26 _ hBW (by kernel_rfl) rfl (by kernel_rfl) ?_;go_wp2_with fail;exact bodyPost_ret (results_cell_row rfl _ _ (w.heap.size+2) 26 #[.bool nb,.slice a2 n2 c2] (0,0) _ rfl (setRow_heap _ _ _ _ _ _ hBW) Tryz.underlying26 rfl (by kernel_rfl)) rfl ⟨_,rfl,hR.out,hEW.out⟩
 ·have hr2:¬0≤r:=by
   have:=hr.1;omega
  have hxy:x≤y:=by omega
  have hz:=mK (hz2.out hyx);replace hr:=mK hr;replace hyx:=mK hyx;replace hxy:=mK hxy;go_wp2_with fail
  apply Ak [.val _,.val _,.val _,.val _,.val _,.val _,.pred (fun W v=>RawO W w3.heap.size v (y-x)),.pred (fun W v=>IntO W w3.heap.size v (z))] (by kernel_rfl)
   (stable_vals _ (stable_vals _ (stable_vals _ (stable_vals _ (stable_vals _ (stable_vals _ (Kx _ _ (Av _ _ trivial))))))))
  ·iterate 6 (refine ⟨fun W hW _=>by go_simp;exact ⟨xR _,rfl⟩,?_⟩)
   refine ⟨fun W hW _=>?g6,fun v6=>⟨fun W hW hF=>?g7,fun v7=>fun W hW hF=>?fin⟩⟩
   case g6=>
    go_simp;refine (Vr _ _ _ _ _ _ _ (by omega) hxy.out (hy.out.ext (hE.trans hW)) (hx.out.ext (hE.trans hW))).mono ?_;rintro e w' ⟨v,rfl,h1,h2⟩;exact ⟨v,rfl,h1,h2.mono hW.size⟩
   case g7=>
    have h6:Hid (RawO W w3.heap.size v6 (y-x)):=hF.1 (by kernel_rfl);clear hF;have hs:=mK (fun neg=>Ci neg _ _ _ W h6.out);go_simp;have h9:=hs.out bY;rw [hz.out] at h9;exact h9
   case fin=>
    have h7:IntO W w3.heap.size v7 (z):=hF.1 rfl;clear hF;obtain ⟨nb,a2,n2,c2,rfl⟩:=h7.r.shape;have hBW:=hB.out W hW;have hR:IntO (W.setRow (w.heap.size+2) #[.bool nb,.slice a2 n2 c2]) w.heap.size (.agg #[.bool nb,.slice a2 n2 c2]) (z):=(h7.row (by omega) _).mono (by omega);have hEW:=mK ((hE.trans hW).row (show w.heap.size≤w.heap.size+2 by omega) #[.bool nb,.slice a2 n2 c2]);replace hR:=mK hR;clear h7 h00 h01 h10 h11;go_simp;refine wpList_store_row rfl 26 (.tmp 4) (.tmp 39) rfl (w.heap.size+2) #[.bool nb,.slice a2 n2 c2] rfl rfl 26 _ hBW (by kernel_rfl) rfl (by kernel_rfl) ?_;go_wp2_with fail;exact bodyPost_ret (results_cell_row rfl _ _ (w.heap.size+2) 26 #[.bool nb,.slice a2 n2 c2] (0,0) _ rfl (setRow_heap _ _ _ _ _ _ hBW) Tryz.underlying26 rfl (by kernel_rfl)) rfl ⟨_,rfl,hR.out,hEW.out⟩
theorem Ly (v1 v2:Value)(X Y:Int)(w:World)(hX:nl X≤1073741824)(hY:nl Y≤1073741824)(h1:IntR w v1 X)(h2:IntR w v2 Y) :
  Calls Tryz.prog 250 #[v1,v2] w fun e w'=>∃ v,e=.returned v∧Ext w w'∧IntO w' w.heap.size v (X+Y):=by
 obtain ⟨s1,rfl,a1,c1,rfl,_,r1⟩:=h1;obtain ⟨s2,rfl,a2,c2,rfl,_,r2⟩:=h2;by_cases hs:decide (X<0)=decide (Y<0)
 ·have e:sg (decide (X<0)) (X.natAbs+Y.natAbs)=X+Y:=by
   unfold sg;by_cases hx:X<0
   ·have hy:Y<0:=by simpa [hx] using hs
    simp [hx];omega
   ·have hy:¬Y<0:=by simpa [hx] using hs
    simp [hx];omega
  rw [←hs,←e];exact (Xy _ _ _ _ _ _ _ _ hX hY r1 r2).mono fun _ _ ⟨v,h1,h2,h3⟩=>⟨v,h1,h3,h2⟩
 ·refine (Xz _ _ hs _ _ _ _ _ _ (X+Y) (fun h=>?_) (fun h=>?_) _ hX hY r1 r2).mono fun _ _ ⟨v,h1,h2,h3⟩=>⟨v,h1,h3,h2⟩
  ·unfold sg
   by_cases hx:X<0
   ·have hy:¬Y<0:=by simpa [hx] using hs
    simp [hx];omega
   ·have hy:Y<0:=by simpa [hx] using hs
    simp [hx];omega
  ·unfold sg
   by_cases hx:X<0
   ·have hy:¬Y<0:=by simpa [hx] using hs
    simp [hy];omega
   ·have hy:Y<0:=by simpa [hx] using hs
    simp [hy];omega
theorem Vw (w:World)(m:Nat)(hm:m<18446744073709551616)(lo hi:Int)(hlo:lo=(m:Int)%4294967296)(hhi:hi=(m:Int)/4294967296)(b:Nat)(hb:b=w.heap.size) :
  RawO (w.alloc (.cells #[.int .u32 lo,.int .u32 hi] 150)) b (.slice (some ⟨b,0,none⟩) 2 2) m:=by
 subst hb
 have e:(limV [m%4294967296,m/4294967296]).toArray=#[.int .u32 lo,.int .u32 hi]:=by
  simp only [limV,List.map_cons,List.map_nil,hlo,hhi];simp
 have:=Cw (w:=w) (q:=[m%4294967296,m/4294967296]) (by simp);rw [e] at this;refine ⟨_,this,?_,by simp,by simp [val];omega⟩;intro x hx;simp only [List.mem_cons,List.not_mem_nil,or_false] at hx;omega
theorem of_c (n:Int)(w:World)(h0:-9223372036854775808≤n)(h1:n<9223372036854775808) :
  Calls Tryz.prog 122 #[.int .i64 n] w fun e w'=>∃ v,e=.returned v∧Ext w w'∧IntO w' w.heap.size v n:=by
 by_cases hn:n<0
 ·have hz:sg true n.natAbs=n:=by simp [sg];omega
  replace hz:=mK hz;go_enter Tryz.func122,Tryz.ntmps122;go_wp2_with fail;have e:IntKind.u64.wrap (-IntKind.u64.wrap n)=((n.natAbs:Nat):Int):=by rw [IntKind.wrap_u64,IntKind.wrap_u64];omega
  refine (Ci true (w.heap.size+1) _ n.natAbs _ (Vw _ _ (by omega) _ _ (by rw [e]) (by rw [e];omega) _ (by simp))).mono ?_;rintro e w2 ⟨v,rfl,he2,h7⟩;have hEW0:=(((xR w).al _).al _).trans he2;have hBW:=he2.blk ((heap_alloc_old _ _ (by simp)).trans (heap_alloc_new w _));rw [hz.out] at h7;replace he2:=mK he2;obtain ⟨nb,a2,n2,c2,rfl⟩:=h7.r.shape;have hR:IntO (w2.setRow (w.heap.size) #[.bool nb,.slice a2 n2 c2]) w.heap.size (.agg #[.bool nb,.slice a2 n2 c2]) (n):=(h7.row (by omega) _).mono (by omega);have hEW:=mK (hEW0.row (show w.heap.size≤w.heap.size by omega) #[.bool nb,.slice a2 n2 c2]);replace hR:=mK hR;clear h7 hEW0;go_wp2_with (refine wpList_store_row rfl 26 (.tmp 2) (.tmp 18) rfl (w.heap.size) #[.bool nb,.slice a2 n2 c2] rfl rfl 26 _ hBW (by kernel_rfl) rfl (by kernel_rfl) ?_);exact bodyPost_ret (results_cell_row rfl _ _ (w.heap.size) 26 #[.bool nb,.slice a2 n2 c2] (0,0) _ rfl (setRow_heap _ _ _ _ _ _ hBW) Tryz.underlying26 rfl (by kernel_rfl)) rfl ⟨_,rfl,hEW.out,hR.out⟩
 ·have hz:sg false n.natAbs=n:=by simp [sg];omega
  replace hz:=mK hz;go_enter Tryz.func122,Tryz.ntmps122;go_wp2_with fail;refine (Ci false (w.heap.size+1) _ n.natAbs _ (Vw _ _ (by omega) _ _ (by omega) (by omega) _ (by simp))).mono ?_;rintro e w2 ⟨v,rfl,he2,h7⟩;have hEW0:=(((xR w).al _).al _).trans he2;have hBW:=he2.blk ((heap_alloc_old _ _ (by simp)).trans (heap_alloc_new w _));rw [hz.out] at h7;replace he2:=mK he2;obtain ⟨nb,a2,n2,c2,rfl⟩:=h7.r.shape;have hR:IntO (w2.setRow (w.heap.size) #[.bool nb,.slice a2 n2 c2]) w.heap.size (.agg #[.bool nb,.slice a2 n2 c2]) (n):=(h7.row (by omega) _).mono (by omega);have hEW:=mK (hEW0.row (show w.heap.size≤w.heap.size by omega) #[.bool nb,.slice a2 n2 c2]);replace hR:=mK hR;clear h7 hEW0;go_wp2_with (refine wpList_store_row rfl 26 (.tmp 2) (.tmp 18) rfl (w.heap.size) #[.bool nb,.slice a2 n2 c2] rfl rfl 26 _ hBW (by kernel_rfl) rfl (by kernel_rfl) ?_);exact bodyPost_ret (results_cell_row rfl _ _ (w.heap.size) 26 #[.bool nb,.slice a2 n2 c2] (0,0) _ rfl (setRow_heap _ _ _ _ _ _ hBW) Tryz.underlying26 rfl (by kernel_rfl)) rfl ⟨_,rfl,hEW.out,hR.out⟩
theorem Fz (v:Value)(X:Int)(w:World)(h:IntR w v X)(hX:nl X≤1073741824) :
  Calls Tryz.prog 172 #[v] w fun e w'=>e=.returned (.int .i64 (X.sign))∧Ext w w':=by
 obtain ⟨s,rfl,a,c,rfl,_,r⟩:=h;clear r;by_cases h0:X=0
 ·subst h0
  have hl:(lim (Int.natAbs 0)).length=0:=by simp [Az]
  rw [hl];go_enter Tryz.func172,Tryz.ntmps172;go_wp2_with fail;go_ret;exact ⟨rfl,(xR _).al _⟩
 ·have hl:(((lim X.natAbs).length:Int)==0)=false:=by
   have:X.natAbs≠0:=by omega
   rw [Cg this];simp;omega
  replace h0:=mK h0;by_cases hn:X<0
  ·have hs:X.sign = -1:=Int.sign_eq_neg_one_of_neg hn
   have hd:decide (X<0)=true:=by simpa using hn
   rw [hs,hd];replace hn:=mK hn;clear hs hd;go_enter Tryz.func172,Tryz.ntmps172;go_wp2_with fail;go_ret;exact ⟨rfl,(xR _).al _⟩
  ·have hs:X.sign=1:=Int.sign_eq_one_of_pos (by have:=h0.out;omega)
   have hd:decide (X<0)=false:=by simpa using hn
   rw [hs,hd];replace hn:=mK hn;clear hs hd;go_enter Tryz.func172,Tryz.ntmps172;go_wp2_with fail;go_ret;exact ⟨rfl,(xR _).al _⟩
theorem Kt (v1 v2:Value)(X Y:Int)(w:World)(hX:nl X≤1073741824)(hY:nl Y≤1073741824)(h1:IntR w v1 X)(h2:IntR w v2 Y) :
  Calls Tryz.prog 121 #[v1,v2] w fun e w'=>e=.returned (.int .i64 (X-Y).sign)∧Ext w w':=by
 have H1:=mK h1;have H2:=mK h2;obtain ⟨s1,rfl,a1,c1,rfl,_,r1⟩:=h1;obtain ⟨s2,rfl,a2,c2,rfl,_,r2⟩:=h2;replace r1:=mK r1;replace r2:=mK r2;obtain ⟨bx,hbx⟩:=nmE (decide (X<0));obtain ⟨bY,hbY⟩:=nmE (decide (Y<0));rw [←hbx] at H1 ⊢;rw [←hbY] at H2 ⊢;replace hbx:=mK hbx;replace hbY:=mK hbY;go_enter Tryz.func121,Tryz.ntmps121;go_wp2_with fail;obtain ⟨w3,hw3⟩:=nmE ((w.alloc (.cells #[.bool bx,.slice a1 (lim X.natAbs).length c1] 26)).alloc (.cells #[.bool bY,.slice a2 (lim Y.natAbs).length c2] 26));have hE:=aLe2 hw3;obtain ⟨h00,h01⟩:=ceX1 (aL20 hw3);obtain ⟨h10,h11⟩:=ceX1 (aL21 hw3);rw [←hw3];replace hw3:=mK hw3
 apply Ak [.val _,.val (.int .i64 X.sign),.val _,.val (.int .i64 Y.sign),.val _,.val _] (by kernel_rfl)
  (stable_vals _ (stable_vals _ (stable_vals _ (stable_vals _ (stable_vals _ (stable_vals _ trivial))))))
 ·iterate 1 (refine ⟨fun W hW _=>by go_simp;exact ⟨xR _,rfl⟩,?_⟩)
  refine ⟨fun W hW _=>?g1,?_⟩
  case g1=>
   go_simp;refine (Fz _ X _ (H1.out.ext (hE.trans hW)) hX).mono ?_;rintro e w' ⟨rfl,h⟩;exact ⟨rfl,h⟩
  iterate 1 (refine ⟨fun W hW _=>by go_simp;exact ⟨xR _,rfl⟩,?_⟩)
  refine ⟨fun W hW _=>?g3,?_⟩
  case g3=>
   go_simp;refine (Fz _ Y _ (H2.out.ext (hE.trans hW)) hY).mono ?_;rintro e w' ⟨rfl,h⟩;exact ⟨rfl,h⟩
  iterate 2 (refine ⟨fun W hW _=>by go_simp;exact ⟨xR _,rfl⟩,?_⟩)
  intro W hW _;have hEW:=mK (hE.trans hW);by_cases hs:X.sign=Y.sign
  ·have hne:(X.sign != Y.sign)=false:=by simpa using hs
   replace hs:=mK hs;go_simp;go_wp2_with fail;refine (Lr _ _ _ _ X.natAbs Y.natAbs W (by unfold nl at *;omega) (by unfold nl at *;omega) (r1.out.ext hEW.out) (r2.out.ext hEW.out)).mono ?_;rintro e w5 ⟨r,rfl,hr,he5⟩;have h5:=fun W' (e:Ext w5 W')=>h00 W' (hW.trans (he5.trans e));have h55:=h5 w5 (xR _);clear h00 h01 h10 h11 h5
   have hres:(bx=true→(r<0→(X-Y).sign=1)∧(r=0→(X-Y).sign=0)∧(0<r→(X-Y).sign = -1))∧(bx=false→(r<0→(X-Y).sign = -1)∧(r=0→(X-Y).sign=0)∧(0<r→(X-Y).sign=1)):=by
    obtain ⟨q1,q2,q3⟩:=hr;have hb:=hbx.out;have hs:=hs.out;have sp:∀ z:Int,0<z→z.sign=1:=fun z h=>Int.sign_eq_one_of_pos h;have sn:∀ z:Int,z<0→z.sign = -1:=fun z h=>Int.sign_eq_neg_one_of_neg h;have s0:∀ z:Int,z=0→z.sign=0:=fun z h=>by rw [h];rfl
    have hxy:(X<0∧Y<0)∨(0≤X∧0≤Y):=by
     rcases Int.lt_trichotomy X 0 with h|h|h<;>rcases Int.lt_trichotomy Y 0 with h'|h'|h'
     all_goals (first|omega|(rw [sn X h,sp Y h'] at hs;omega)|(rw [sp X h,sn Y h'] at hs;omega)|(rw [sn X h,s0 Y h'] at hs;omega)|(rw [s0 X h,sn Y h'] at hs;omega))
    constructor
    ·intro hbt
     have hx:X<0:=by rw [hbt] at hb;simpa using hb
     exact ⟨fun h=>sp _ (by omega),fun h=>s0 _ (by omega),fun h=>sn _ (by omega)⟩
    ·intro hbt
     have hx:¬X<0:=by rw [hbt] at hb;simpa using hb
     exact ⟨fun h=>sn _ (by omega),fun h=>s0 _ (by omega),fun h=>sp _ (by omega)⟩
   have hr3:=hr.2.2;replace hres:=mK hres;replace hr:=mK hr;have hfin:=mK (hEW.out.trans he5);clear he5 hbx;cases bx with
   | true=>
    have hv:=mK (hres.out.1 rfl);clear hres;rcases Int.lt_trichotomy r 0 with h|h|h
    ·have hq:=mK (hv.out.1 h)
     go_wp2_with fail;go_ret;exact ⟨Et hq.out.symm,hfin.out⟩
    ·have hq:=mK (hv.out.2.1 h)
     subst h;go_wp2_with fail;go_ret;exact ⟨Et hq.out.symm,hfin.out⟩
    ·have hq:=mK (hv.out.2.2 h)
     go_wp2_with fail;go_ret;exact ⟨Et hq.out.symm,hfin.out⟩
   | false=>
    have hv:=mK (hres.out.2 rfl);clear hres;rcases Int.lt_trichotomy r 0 with h|h|h
    ·have hq:=mK (hv.out.1 h)
     go_wp2_with fail;go_ret;exact ⟨Et hq.out.symm,hfin.out⟩
    ·have hq:=mK (hv.out.2.1 h)
     subst h;go_wp2_with fail;go_ret;exact ⟨Et hq.out.symm,hfin.out⟩
    ·have hq:=mK (hv.out.2.2 h)
     go_wp2_with fail;go_ret;exact ⟨Et hq.out.symm,hfin.out⟩
  ·have hne:(X.sign != Y.sign)=true:=by simpa using hs
   have sp:∀ z:Int,0<z→z.sign=1:=fun z h=>Int.sign_eq_one_of_pos h;have sn:∀ z:Int,z<0→z.sign = -1:=fun z h=>Int.sign_eq_neg_one_of_neg h;have s0:∀ z:Int,z=0→z.sign=0:=fun z h=>by rw [h];rfl
   by_cases hlt:X.sign<Y.sign
   ·have hv:(X-Y).sign = -1:=by
     rcases Int.lt_trichotomy X 0 with h|h|h<;>rcases Int.lt_trichotomy Y 0 with h'|h'|h'
     all_goals (first|(exact sn _ (by omega))|(first|rw [sn X h] at hlt|rw [s0 X h] at hlt|rw [sp X h] at hlt);(first|rw [sn Y h'] at hlt|rw [s0 Y h'] at hlt|rw [sp Y h'] at hlt);omega)
    replace hv:=mK hv;replace hs:=mK hs;clear sp sn s0 h00 h01 h10 h11;go_simp;go_wp2_with fail;go_ret;exact ⟨Et hv.out.symm,hEW.out⟩
   ·have hv:(X-Y).sign=1:=by
     rcases Int.lt_trichotomy X 0 with h|h|h<;>rcases Int.lt_trichotomy Y 0 with h'|h'|h'
     all_goals (first|(exact sp _ (by omega))|(first|rw [sn X h] at hlt hs|rw [s0 X h] at hlt hs|rw [sp X h] at hlt hs);(first|rw [sn Y h'] at hlt hs|rw [s0 Y h'] at hlt hs|rw [sp Y h'] at hlt hs);omega)
    replace hv:=mK hv;replace hs:=mK hs;clear sp sn s0 h00 h01 h10 h11;go_simp;go_wp2_with fail;go_ret;exact ⟨Et hv.out.symm,hEW.out⟩
theorem Wf (v1 v2:Value)(X Y:Int)(w:World)(hX:nl X≤1073741824)(hY:nl Y≤1073741824)(h1:IntR w v1 X)(h2:IntR w v2 Y) :
  Calls Tryz.prog 272 #[v1,v2] w fun e w'=>∃ v,e=.returned v∧Ext w w'∧IntO w' w.heap.size v (X-Y):=by
 have hY2:nl (-Y)≤1073741824:=by unfold nl at *;simpa using hY
 have H1:=mK h1;obtain ⟨s1,rfl,a1,c1,rfl,_,r1⟩:=h1;obtain ⟨s2,rfl,a2,c2,rfl,hc2,r2⟩:=h2;have HN:Hid (IntR w (.agg #[.bool (decide (-Y<0)),.slice a2 (lim Y.natAbs).length c2]) (-Y)):=⟨.slice a2 (lim Y.natAbs).length c2,rfl,a2,c2,by rw [Int.natAbs_neg],by rw [Int.natAbs_neg];exact hc2,by rw [Int.natAbs_neg];exact r2⟩
 clear r1 r2;obtain ⟨bx,hbx⟩:=nmE (decide (X<0));rw [←hbx] at H1 ⊢;clear hbx
 -- is it turned?
 have key:∀ (bY:Bool),bY=decide (Y<0)→Calls Tryz.prog 272 #[.agg #[.bool bx,.slice a1 (lim X.natAbs).length c1],.agg #[.bool bY,.slice a2 (lim Y.natAbs).length c2]] w fun e w'=>∃ v,e=.returned v∧Ext w w'∧IntO w' w.heap.size v (X-Y):=by
  intro bY hbY;cases bY with
  | true=>
   have hd:decide (-Y<0)=false:=by
    have:Y<0:=by simpa using hbY.symm
    simp;omega
   rw [hd] at HN;clear hbY hd;go_enter Tryz.func272,Tryz.ntmps272;go_wp2_with fail;refine (Ly _ _ X (-Y) _ hX hY2 (H1.out.ext ((((xR w).al _).al _).al _)) (HN.out.ext ((((xR w).al _).al _).al _))).mono ?_;rintro e w2 ⟨v,rfl,he2,h7⟩;have hEW0:=((((xR w).al _).al _).al _).trans he2;have hBW:=he2.blk (Bl _ _ (w.heap.size+2) (by simp));replace h7:IntO w2 (w.heap.size+3) v (X-Y):=(by rw [←Int.sub_eq_add_neg] at h7;exact h7.mono (by simp))
   replace he2:=mK he2;obtain ⟨nb,a2,n2,c2,rfl⟩:=h7.r.shape;have hR:IntO (w2.setRow (w.heap.size+2) #[.bool nb,.slice a2 n2 c2]) w.heap.size (.agg #[.bool nb,.slice a2 n2 c2]) (X-Y):=(h7.row (by omega) _).mono (by omega);have hEW:=mK (hEW0.row (show w.heap.size≤w.heap.size+2 by omega) #[.bool nb,.slice a2 n2 c2]);replace hR:=mK hR;clear h7 hEW0;go_wp2_with (refine wpList_store_row rfl 26 (.tmp 4) (.tmp 18) rfl (w.heap.size+2) #[.bool nb,.slice a2 n2 c2] rfl rfl 26 _ hBW (by kernel_rfl) rfl (by kernel_rfl) ?_);exact bodyPost_ret (results_cell_row rfl _ _ (w.heap.size+2) 26 #[.bool nb,.slice a2 n2 c2] (0,0) _ rfl (setRow_heap _ _ _ _ _ _ hBW) Tryz.underlying26 rfl (by kernel_rfl)) rfl ⟨_,rfl,hEW.out,hR.out⟩
  | false=>
   have hy0:¬Y<0:=by simpa using hbY.symm
   by_cases h0:Y=0
   ·have hd:decide (-Y<0)=false:=by simp;omega
    have hl:(lim Y.natAbs).length=0:=by rw [h0];simp [Az]
    rw [hd,hl] at HN;rw [hl];clear hbY hd hl hy0 hc2;replace h0:=mK h0;go_enter Tryz.func272,Tryz.ntmps272;go_wp2_with fail;refine (Ly _ _ X (-Y) _ hX hY2 (H1.out.ext ((((xR w).al _).al _).al _)) (HN.out.ext ((((xR w).al _).al _).al _))).mono ?_;rintro e w2 ⟨v,rfl,he2,h7⟩;have hEW0:=((((xR w).al _).al _).al _).trans he2;have hBW:=he2.blk (Bl _ _ (w.heap.size+2) (by simp));replace h7:IntO w2 (w.heap.size+3) v (X-Y):=(by rw [←Int.sub_eq_add_neg] at h7;exact h7.mono (by simp))
    replace he2:=mK he2;obtain ⟨nb,a2,n2,c2,rfl⟩:=h7.r.shape;have hR:IntO (w2.setRow (w.heap.size+2) #[.bool nb,.slice a2 n2 c2]) w.heap.size (.agg #[.bool nb,.slice a2 n2 c2]) (X-Y):=(h7.row (by omega) _).mono (by omega);have hEW:=mK (hEW0.row (show w.heap.size≤w.heap.size+2 by omega) #[.bool nb,.slice a2 n2 c2]);replace hR:=mK hR;clear h7 hEW0;go_wp2_with (refine wpList_store_row rfl 26 (.tmp 4) (.tmp 18) rfl (w.heap.size+2) #[.bool nb,.slice a2 n2 c2] rfl rfl 26 _ hBW (by kernel_rfl) rfl (by kernel_rfl) ?_);exact bodyPost_ret (results_cell_row rfl _ _ (w.heap.size+2) 26 #[.bool nb,.slice a2 n2 c2] (0,0) _ rfl (setRow_heap _ _ _ _ _ _ hBW) Tryz.underlying26 rfl (by kernel_rfl)) rfl ⟨_,rfl,hEW.out,hR.out⟩
   ·have hd:decide (-Y<0)=true:=by simp;omega
    have hl:0<(lim Y.natAbs).length:=by
     rw [Cg (by omega)];simp
    rw [hd] at HN;clear hbY hd hy0 hc2;replace h0:=mK h0;go_enter Tryz.func272,Tryz.ntmps272;go_wp2_with fail;refine (Ly _ _ X (-Y) _ hX hY2 (H1.out.ext ((((xR w).al _).al _).al _)) (HN.out.ext ((((xR w).al _).al _).al _))).mono ?_;rintro e w2 ⟨v,rfl,he2,h7⟩;have hEW0:=((((xR w).al _).al _).al _).trans he2;have hBW:=he2.blk (Bl _ _ (w.heap.size+2) (by simp));replace h7:IntO w2 (w.heap.size+3) v (X-Y):=(by rw [←Int.sub_eq_add_neg] at h7;exact h7.mono (by simp))
    replace he2:=mK he2;obtain ⟨nb,a2,n2,c2,rfl⟩:=h7.r.shape;have hR:IntO (w2.setRow (w.heap.size+2) #[.bool nb,.slice a2 n2 c2]) w.heap.size (.agg #[.bool nb,.slice a2 n2 c2]) (X-Y):=(h7.row (by omega) _).mono (by omega);have hEW:=mK (hEW0.row (show w.heap.size≤w.heap.size+2 by omega) #[.bool nb,.slice a2 n2 c2]);replace hR:=mK hR;clear h7 hEW0;go_wp2_with (refine wpList_store_row rfl 26 (.tmp 4) (.tmp 18) rfl (w.heap.size+2) #[.bool nb,.slice a2 n2 c2] rfl rfl 26 _ hBW (by kernel_rfl) rfl (by kernel_rfl) ?_);exact bodyPost_ret (results_cell_row rfl _ _ (w.heap.size+2) 26 #[.bool nb,.slice a2 n2 c2] (0,0) _ rfl (setRow_heap _ _ _ _ _ _ hBW) Tryz.underlying26 rfl (by kernel_rfl)) rfl ⟨_,rfl,hEW.out,hR.out⟩
 exact key _ rfl
theorem Vo {l:List Nat}{j:Nat}(h:j<l.length)(r:Nat):val (l.set j r)+4294967296 ^ j*l.getD j 0=val l+4294967296 ^ j*r:=by
 induction l generalizing j with
 | nil=>simp at h
 | cons x l ih=>
  cases j with
  | zero=>simp [val];omega
  | succ j=>
   have:=ih (j:=j) (by simpa using h);simp only [List.set_cons_succ,val,Nat.pow_succ,List.getD_cons_succ];have e1:4294967296 ^ j*4294967296*l.getD j 0=4294967296*(4294967296 ^ j*l.getD j 0):=by rw [Nat.mul_comm (4294967296 ^ j) 4294967296,Nat.mul_assoc]
   have e2:4294967296 ^ j*4294967296*r=4294967296*(4294967296 ^ j*r):=by rw [Nat.mul_comm (4294967296 ^ j) 4294967296,Nat.mul_assoc]
   rw [e1,e2];omega
theorem Abh {T A s p u v o c r c':Nat}(h:T+p*c=A+s)(he:c+(u*v+o)=r+4294967296*c')(T':Nat)(hT:T'+p*o=T+p*r):T'+p*4294967296*c'=A+(s+p*(u*v)):=by
 have e:p*(c+(u*v+o))=p*(r+4294967296*c'):=by rw [he]
 simp only [Nat.mul_add,←Nat.mul_assoc] at e ⊢;rw [Nat.mul_assoc p u v] at *;omega
def MulO (a b q:List Nat)(i:Nat):Prop:=q.length=a.length+b.length∧OkL q∧val (q.take (i+b.length))=val (a.take i)*val b
def MulI (a b q:List Nat)(i k c:Nat):Prop:=
 q.length=a.length+b.length∧OkL q∧c<4294967296∧val (q.take (i+b.length))+4294967296 ^ (i+k)*c=val (a.take i)*val b+4294967296 ^ i*a.getD i 0*val (b.take k)
theorem Uc (a b:List Nat):MulO a b (List.replicate (a.length+b.length) 0) 0:=
 ⟨by simp,fun x hx=>by rw [List.eq_of_mem_replicate hx];omega,by simp [val,List.take_replicate,Hz]⟩
theorem Ud {a b q:List Nat}{i:Nat}(h:MulO a b q i):MulI a b q i 0 0:=
 ⟨h.1,h.2.1,by omega,by simp [h.2.2,val]⟩
theorem Yn {a b q:List Nat}{i k c:Nat}(h:MulI a b q i k c)(hi:i<a.length)(hk:k<b.length)(ha:OkL a)(hb:OkL b) :
  MulI a b (q.set (i+k) ((c+(a.getD i 0*b.getD k 0+q.getD (i+k) 0))%4294967296)) i (k+1) ((c+(a.getD i 0*b.getD k 0+q.getD (i+k) 0))/4294967296):=by
 obtain ⟨h1,h2,h3,h4⟩:=h;have hu:=As ha i;have hv:=As hb k;have ho:=As h2 (i+k);have hlt:i+k<(q.take (i+b.length)).length:=by rw [List.length_take];omega
 have hs:=Vo hlt ((c+(a.getD i 0*b.getD k 0+q.getD (i+k) 0))%4294967296)
 have hg:(q.take (i+b.length)).getD (i+k) 0=q.getD (i+k) 0:=by
  simp [List.getD_eq_getElem?_getD,hk]
 rw [hg] at hs;refine ⟨by simpa using h1,Cn h2 (Nat.mod_lt _ (by omega)),?_,?_⟩
 ·have:a.getD i 0*b.getD k 0≤4294967295*4294967295:=Nat.mul_le_mul (by omega) (by omega)
  refine Nat.div_lt_of_lt_mul ?_;omega
 ·rw [Ao b k hk,List.take_set]
  have e:=(Nat.mod_add_div (c+(a.getD i 0*b.getD k 0+q.getD (i+k) 0)) 4294967296).symm;have:=Abh h4 e _ hs;rw [show i+(k+1)=(i+k)+1 from rfl,Nat.pow_succ,this];rw [Nat.mul_add,Nat.pow_add];simp only [Nat.mul_assoc,Nat.mul_left_comm]
theorem Abi {a b q:List Nat}{i c:Nat}(h:MulI a b q i b.length c)(hi:i<a.length):MulO a b (q.set (i+b.length) c) (i+1):=by
 obtain ⟨h1,h2,h3,h4⟩:=h;refine ⟨by simpa using h1,Cn h2 h3,?_⟩;rw [show i+1+b.length=(i+b.length)+1 by omega,Bs _ _ _ (by omega),h4,List.take_length,Ao a i hi,Nat.add_mul]
theorem Ub {u v o c:Nat}(hu:u<4294967296)(hv:v<4294967296)(ho:o<4294967296)(hc:c<4294967296) :
  0≤(u:Int)*v∧(u:Int)*v+o≤18446744069414584320∧(c:Int)+((u:Int)*v+o)≤18446744073709551615:=by
 have h:u*v≤4294967295*4294967295:=Nat.mul_le_mul (by omega) (by omega);have e:(u:Int)*v=((u*v:Nat):Int):=by simp
 rw [e];omega
theorem Xh (bx bY:Bool)(a a':Option Addr)(c c':Nat)(l m:List Nat)(w:World)(hl:l.length≤1073741824)(hm:m.length≤1073741824)(okl:OkL l)(okm:OkL m)
  (h:Row w a (limV l)) (h':Row w a' (limV m)) :
  Calls Tryz.prog 220 #[.agg #[.bool bx,.slice a l.length c],.agg #[.bool bY,.slice a' m.length c']] w fun e w'=>∃ v,e=.returned v∧Ext w w'∧IntO w' w.heap.size v (sg (bx != bY) (val l*val m)):=by
 obtain ⟨b,off,ha,hc⟩:=h;obtain ⟨b',off',ha',hc'⟩:=h';replace ha:=mK ha;replace hc:=mK hc;replace ha':=mK ha';replace hc':=mK hc';have hmk:=fun w=>make32 (l.length+m.length) w (by omega);rw [show (((l.length+m.length:Nat)):Int)=(l.length:Int)+m.length by omega] at hmk;have hst:=mK (Uc l m);go_enter Tryz.func220,Tryz.ntmps220;go_wp2_with fail;obtain ⟨w3,hw3⟩:=nmE (((w.alloc (.cells #[.bool bx,.slice a l.length c] 26)).alloc (.cells #[.bool bY,.slice a' m.length c'] 26)).alloc (.cells #[.bool false,.slice none 0 0] 26));have hE:=aLe3 hw3;obtain ⟨h00,h01⟩:=ceX1 (aL30 hw3);obtain ⟨h10,h11⟩:=ceX1 (aL31 hw3);have hsz:w.heap.size+3≤w3.heap.size:=by rw [hw3];simp
 have hB:=mK (fun W (e:Ext w3 W)=>e.blk (aL32 hw3));rw [←hw3];replace hw3:=mK hw3;apply Ak [.val _,.val _,.val _,.val _,.val _,.val _] (by kernel_rfl) (stable_vals _ (stable_vals _ (stable_vals _ (stable_vals _ (stable_vals _ (stable_vals _ trivial))))))
 ·iterate 6 (refine ⟨fun W hW _=>by go_simp;exact ⟨xR _,rfl⟩,?_⟩)
  intro W hW _;have hEW:=mK (hE.trans hW);have g00:=h00 W hW;have g10:=h10 W hW;have hBW:=hB.out W hW;have hsW:w.heap.size+3≤W.heap.size:=by have:=hW.size;omega
  clear h00 h01 h10 h11 hW hE hB;go_simp;replace g00:=mK g00;replace g10:=mK g10;replace hBW:=mK hBW;go_wp2_with fail;go_loopw [25] (fun i wr=>∃ k q,k≤l.length∧i=.int .i64 (k:Nat)∧wr=W.alloc (.cells (limV q).toArray 150)∧MulO l m q k) (fun i _=>l.length-(intOf i).toNat)
  case atStart=>exact ⟨0,_,Nat.zero_le _,rfl,rfl,hst.out⟩
  case round=>
   obtain ⟨k,q,hk,rfl,rfl,hmo⟩:=hrel;replace hmo:=mK hmo;by_cases hkl:k<l.length
   ·have h1:=fun o=>(((hEW.out).al o)).cell (Ga hc.out hkl)
    have hA:=ha.out (Co hkl);rw [hA];replace hA:=mK hA;have hu:=As okl k;obtain ⟨u,hu'⟩:∃ u,u=l.getD k 0:=⟨_,rfl⟩
    rw [←hu'] at h1 hu;have hi0:=mK (Ud hmo.out);replace hu':=mK hu';have hkl':=mK hkl;go_wp2_with fail;go_loopw [32,10] (fun i s wr=>∃ kk cr q,kk≤m.length∧i=.int .i64 (kk:Nat)∧s=.int .u64 (cr:Nat)∧wr=W.alloc (.cells (limV q).toArray 150)∧MulI l m q k kk cr) (fun i _ _=>m.length-(intOf i).toNat)
    case atStart=>exact ⟨0,0,q,Nat.zero_le _,rfl,rfl,rfl,hi0.out⟩
    case round=>
     obtain ⟨kk,cr,q,hkk,rfl,rfl,rfl,hmi⟩:=hrel;have hq1:=hmi.1;have hcr:=hmi.2.2.1;by_cases hkk2:kk<m.length
     ·have h2:=fun o=>(((hEW.out).al o)).cell (Ga hc'.out hkk2)
      have hA':=ha'.out (Co hkk2);have hv:=As okm kk;have hold:=Ey (q:=q) (k:=k+kk) (by omega);have ho:=As hmi.2.1 (k+kk);have hnext:=Yn hmi hkl'.out hkk2 okl okm;rw [←hu'.out] at hnext;have hb:=Ub hu hv ho hcr;obtain ⟨R,hR⟩:=nmE (cr+(u*m.getD kk 0+q.getD (k+kk) 0));rw [←hR] at hnext;have hset:=mK (Bo q (k+kk) (R%4294967296));rw [hA'];replace hA':=mK hA';replace hnext:=mK hnext;replace hmi:=mK hmi;generalize m.getD kk 0=v at *;generalize q.getD (k+kk) 0=o at *;generalize hArr:(limV q).toArray=arr at *;replace hArr:=mK hArr;replace hR:=mK hR;go_wp2_with fail;have hRi:(R:Int)=cr+((u:Int)*v+o):=by rw [hR.out];simp
      go_roundw
      case rel=>exact ⟨kk+1,R/4294967296,_,by omega,by go_num,by rw [←hRi];rfl,by rw [←hset.out,←hRi];rfl,hnext.out⟩
      case measure=>simp [intOf]<;>omega
     ·obtain rfl:kk=m.length:=by omega
      have hend:=mK (Abi hmi hkl'.out);have hold:=Ey (q:=q) (k:=k+m.length) (by omega);have hset:=mK (Bo q (k+m.length) cr);replace hmi:=mK hmi;generalize hArr:(limV q).toArray=arr at *;replace hArr:=mK hArr;go_wp2_with fail;go_roundw
      case rel=>exact ⟨k+1,_,by omega,by go_num,by rw [←hset.out],hend.out⟩
      case measure=>simp [intOf]<;>omega
   ·obtain rfl:k=l.length:=by omega
    obtain ⟨x1,x2,x3⟩:=hmo.out;rw [List.take_length,List.take_of_length_le (by omega)] at x3;have g00':=fun o=>((xR W).al o).cell g00.out;have g10':=fun o=>((xR W).al o).cell g10.out;have hraw:RawO (W.alloc (.cells (limV q).toArray 150)) W.heap.size (.slice (some ⟨W.heap.size,0,none⟩) q.length q.length) (val l*val m):=⟨q,Cw (by omega),x2,by omega,x3⟩
    have hsg:=Ci (bx != bY) W.heap.size _ _ _ hraw;rw [x1] at hsg;replace hsg:=mK hsg;clear hraw;replace x1:=mK x1;generalize hArr:(limV q).toArray=arr at *;replace hArr:=mK hArr;go_wp2_with fail;refine hsg.out.mono ?_;rintro e w2 ⟨v,rfl,hE2,h7⟩;replace hE2:=mK hE2;have hEW0:Ext w w2:=(hEW.out.al _).trans hE2.out;replace hBW:w2.heap[w.heap.size+2]? = some (.cells #[.bool false,.slice none 0 0] 26):=(((xR W).al _).trans hE2.out).blk hBW.out;clear g00' g10' hsg;obtain ⟨nb,a2,n2,c2,rfl⟩:=h7.r.shape;have hR:IntO (w2.setRow (w.heap.size+2) #[.bool nb,.slice a2 n2 c2]) w.heap.size (.agg #[.bool nb,.slice a2 n2 c2]) (sg (bx != bY) (val l*val m)):=(h7.row (by omega) _).mono (by omega);have hEW:=mK (hEW0.row (show w.heap.size≤w.heap.size+2 by omega) #[.bool nb,.slice a2 n2 c2]);replace hR:=mK hR;clear h7 hEW0;go_wp2_with (refine wpList_store_row rfl 26 (.tmp 4) (.tmp 77) rfl (w.heap.size+2) #[.bool nb,.slice a2 n2 c2] rfl rfl 26 _ hBW (by kernel_rfl) rfl (by kernel_rfl) ?_);exact bodyPost_ret (results_cell_row rfl _ _ (w.heap.size+2) 26 #[.bool nb,.slice a2 n2 c2] (0,0) _ rfl (setRow_heap _ _ _ _ _ _ hBW) Tryz.underlying26 rfl (by kernel_rfl)) rfl ⟨_,rfl,hEW.out,hR.out⟩
theorem Afr (X Y:Int):sg (decide (X<0) != decide (Y<0)) (X.natAbs*Y.natAbs)=X*Y:=by
 unfold sg;have h:((X.natAbs*Y.natAbs:Nat):Int)=(X.natAbs:Int)*(Y.natAbs:Int):=by simp
 by_cases hx:X<0
 ·by_cases hy:Y<0
  ·rw [decide_eq_true hx,decide_eq_true hy]
   show ((X.natAbs*Y.natAbs:Nat):Int)=X*Y
   rw [h,show (X.natAbs:Int) = -X by omega,show (Y.natAbs:Int) = -Y by omega,Int.neg_mul_neg]
  ·rw [decide_eq_true hx,decide_eq_false hy]
   show -((X.natAbs*Y.natAbs:Nat):Int)=X*Y
   rw [h,show (X.natAbs:Int) = -X by omega,show (Y.natAbs:Int)=Y by omega,Int.neg_mul,Int.neg_neg]
 ·by_cases hy:Y<0
  ·rw [decide_eq_false hx,decide_eq_true hy]
   show -((X.natAbs*Y.natAbs:Nat):Int)=X*Y
   rw [h,show (X.natAbs:Int)=X by omega,show (Y.natAbs:Int) = -Y by omega,Int.mul_neg,Int.neg_neg]
  ·rw [decide_eq_false hx,decide_eq_false hy]
   show ((X.natAbs*Y.natAbs:Nat):Int)=X*Y
   rw [h,show (X.natAbs:Int)=X by omega,show (Y.natAbs:Int)=Y by omega]
theorem Dn (v1 v2:Value)(X Y:Int)(w:World)(hX:nl X≤1073741824)(hY:nl Y≤1073741824)(h1:IntR w v1 X)(h2:IntR w v2 Y) :
  Calls Tryz.prog 220 #[v1,v2] w fun e w'=>∃ v,e=.returned v∧Ext w w'∧IntO w' w.heap.size v (X*Y):=by
 obtain ⟨s1,rfl,a1,c1,rfl,_,r1⟩:=h1;obtain ⟨s2,rfl,a2,c2,rfl,_,r2⟩:=h2;refine (Xh (decide (X<0)) (decide (Y<0)) a1 a2 c1 c2 _ _ w hX hY (By _) (By _) r1 r2).mono ?_;rintro e w' ⟨v,h,h1,h2⟩;rw [Bn,Bn,Afr] at h2;exact ⟨v,h,h1,h2⟩
theorem Na (n:Int)(h₀:0≤n)(h₁:n<2 ^ 64):IntKind.u64.wrap n=n:=by rw [IntKind.wrap_u64];omega
theorem or64 (a b:Nat)(ha:a<18446744073709551616)(hb:b<18446744073709551616):bits .or .u64 a b=((a ||| b:Nat):Int):=(bits_nat .u64 64 (by decide) Na a b ha hb).2
theorem join64 (hi lo:Nat)(hh:hi<4294967296)(hl:lo<4294967296):bits .or .u64 ((hi:Int)*4294967296) lo=(hi:Int)*4294967296+lo:=by
 have e:(hi:Int)*4294967296=((hi*4294967296:Nat):Int):=by simp
 rw [e,or64 _ _ (by omega) (by omega)];have:=Nat.shiftLeft_add_eq_or_of_lt (i:=32) (b:=lo) hl hi;rw [Nat.shiftLeft_eq] at this;have h2:(2:Nat) ^ 32=4294967296:=by decide
 rw [h2] at this;rw [←this];simp
theorem Aed (hi lo y:Nat)(w:World)(hh:hi<y)(hl:lo<4294967296)(hy:y<4294967296) :
  Calls Tryz.prog 233 #[.int .u32 hi,.int .u32 lo,.int .u32 y] w fun e w'=>e=.returned (.tuple #[.int .u32 ((hi*4294967296+lo)/y:Nat),.int .u32 ((hi*4294967296+lo)%y:Nat)])∧∃ n,w'=w.drewN n:=by
 have hj:=join64 hi lo (by omega) hl;go_enter Tryz.func233,Tryz.ntmps233;go_wp2_with fail;have e1:(((hi*4294967296+lo)/y:Nat):Int)=((hi:Int)*4294967296+lo)/y:=by simp
 have e2:(((hi*4294967296+lo)%y:Nat):Int)=((hi:Int)*4294967296+lo)%y:=by simp
 have q0:(hi*4294967296+lo)/y<4294967296:=Nat.div_lt_of_lt_mul (by have:=Nat.mul_le_mul_right 4294967296 (show hi+1≤y from hh);omega);have q1:(hi*4294967296+lo)%y<y:=Nat.mod_lt _ (by omega);have w1:IntKind.u32.wrap (((hi:Int)*4294967296+lo)/y)=((hi*4294967296+lo)/y:Nat):=by rw [←e1];exact Gc _ (Int.natCast_nonneg _) (Int.ofNat_lt.2 q0)
 have w2:IntKind.u32.wrap (((hi:Int)*4294967296+lo)%y)=((hi*4294967296+lo)%y:Nat):=by rw [←e2];exact Gc _ (Int.natCast_nonneg _) (Int.ofNat_lt.2 (Nat.lt_trans q1 hy))
 have hy0:y≠0:=by omega
 go_quiet (fail);go_wp2_with fail;go_ret2;exact ⟨Pa e1.symm e2.symm,nq,rfl⟩
theorem Ei (l:List Nat)(k:Nat)(h:k<l.length):val (l.drop k)=l.getD k 0+4294967296*val (l.drop (k+1)):=by
 rw [List.drop_eq_getElem_cons h];simp [val,h]
def Mt (q:List Nat)(d:Nat)(p:List Nat)(k r:Nat):Prop:=p.length=q.length∧OkL p∧r<d∧p.take k=q.take k∧val (q.drop k)=val (p.drop k)*d+r
theorem Oq {q:List Nat}{d:Nat}(h:OkL q)(hd:0<d):Mt q d q q.length 0:=⟨rfl,h,hd,rfl,by simp [val]⟩
theorem Qt {q p:List Nat}{d k r:Nat}(h:Mt q d p (k+1) r)(hk:k<q.length)(hd:d<4294967296)(hq:OkL q) :
  Mt q d (p.set k ((r*4294967296+q.getD k 0)/d)) k ((r*4294967296+q.getD k 0)%d):=by
 obtain ⟨h1,h2,h3,h4,h5⟩:=h;have hl:=As hq k;refine ⟨by simpa using h1,Cn h2 ?_,Nat.mod_lt _ (by omega),?_,?_⟩
 ·exact Nat.div_lt_of_lt_mul (by have:=Nat.mul_le_mul_right 4294967296 (show r+1≤d from h3);omega)
 ·rw [List.take_set_of_le (nR _)]
  have:=congrArg (List.take k) h4
  rwa [List.take_take,List.take_take,Nat.min_eq_left (by omega)] at this
 ·rw [Ei q k hk,h5,Ei _ k (by simp;omega)]
  have e:=Nat.div_add_mod (r*4294967296+q.getD k 0) d;have e2:(p.set k ((r*4294967296+q.getD k 0)/d)).getD k 0=(r*4294967296+q.getD k 0)/d:=by simp [show k<p.length by omega]
  have e3:(p.set k ((r*4294967296+q.getD k 0)/d)).drop (k+1)=p.drop (k+1):=by rw [List.drop_set_of_lt (by omega)]
  rw [e2,e3];generalize (r*4294967296+q.getD k 0)/d=x at *;generalize (r*4294967296+q.getD k 0)%d=y at *;generalize val (p.drop (k+1))=v at *;rw [Nat.add_mul,Nat.mul_add,Nat.mul_assoc 4294967296 v d,Nat.mul_comm x d];omega
theorem Vv (base g n cap d:Nat)(q:List Nat)(w:World)(hn:q.length=n)(hl:n≤4294967296)(okq:OkL q)(hd:0<d)(hd2:d<4294967296)
  (h:w.ownsRow base 150 1 (.slice (some ⟨g,0,none⟩) n cap) n (limV q)) :
  Calls Tryz.prog 183 #[.slice (some ⟨g,0,none⟩) n cap,.int .u32 d] w fun e w'=>∃ p r,e=.returned (.int .u32 (r:Nat))∧Mt q d p 0 r ∧
   w'.ownsRow base 150 1 (.slice (some ⟨g,0,none⟩) n cap) n (limV p)∧w.grownBy w' (some g):=by
 have hst:=mK (Oq okq hd);rw [hn] at hst;replace h:=mK h;replace hn:=mK hn;go_enter Tryz.func183,Tryz.ntmps183;go_wp2_with fail;go_loopw [6,5] (fun i s wr=>∃ k r p,k≤n∧i=.int .i64 ((k:Int)-1)∧s=.int .u32 (r:Nat)∧Mt q d p k r∧wr.ownsRow base 150 1 (.slice (some ⟨g,0,none⟩) n cap) n (limV p)∧w.grownBy wr (some g)) (fun i _ _=>(intOf i+1).toNat)
 case atStart=>exact ⟨n,0,q,nR _,rfl,rfl,hst.out,h.out,World.grownBy.refl _ _⟩
 case round=>
  obtain ⟨k,r,p,hk,rfl,rfl,hsh,ho,hgr⟩:=hrel;cases k with
  | zero=>
   replace hsh:=mK hsh;replace ho:=mK ho;replace hgr:=mK hgr;go_wp2_with fail;go_ret;exact ⟨p,r,rfl,hsh.out,ho.out,hgr.out⟩
  | succ k=>
   rw [show (((k+1:Nat)):Int)-1=(k:Int) by omega];have hkq:k<q.length:=by rw [hn.out];omega
   have hpl:=hsh.1
   have hx:p.getD k 0=q.getD k 0:=by
    have:=congrArg (fun l=>l.getD k 0) hsh.2.2.2.1;simpa [List.getD_eq_getElem?_getD,List.getElem?_take] using this
   have hxl:=As okq k;have hrd:=hsh.2.2.1
   have hcell:wr.cell? ⟨g,k,none⟩=some (.int .u32 (q.getD k 0:Nat)):=by
    rw [ho.cellAt k (by omega),←hx];have:k<p.length:=by omega
    simp [limV,this]
   have hfz:=ho.frozenAt k;have hnext:=mK (Qt hsh hkq hd2 okq);generalize q.getD k 0=x at *;have hdv:=fun w=>Aed r x d w hrd hxl hd2;obtain ⟨Q,hQ⟩:=nmE ((r*4294967296+x)/d);obtain ⟨R,hR⟩:=nmE ((r*4294967296+x)%d);rw [←hQ,←hR] at hdv hnext;clear hQ hR hx hsh;obtain ⟨hs1,hs2⟩:=ho.stored k (.int .u32 (Q:Nat));rw [Dm] at hs1;replace hs1:=mK hs1;replace hs2:=mK hs2;replace hdv:=mK hdv;replace ho:=mK ho;replace hgr:=mK hgr;go_wp2_with (go_at_call 233;refine (hdv.out _).mono ?_;rintro e w' ⟨rfl,m,rfl⟩);go_roundw
   case rel=>exact ⟨k,R,p.set k Q,by omega,rfl,rfl,hnext.out,hs1.out,hgr.out.trans ⟨hs2.out.os,hs2.out.tape,hs2.out.output,hs2.out.size,hs2.out.block⟩⟩
   case measure=>simp [intOf]<;>omega
def UpI (l:List Nat)(n:Nat)(q:List Nat)(k c:Nat):Prop:=q.length=l.length+1∧OkL q∧c<2 ^ n∧val (q.take k)+4294967296 ^ k*c=val (l.take k)*2 ^ n
theorem Xg (l:List Nat)(n:Nat):UpI l n (List.replicate (l.length+1) 0) 0 0:=
 ⟨by simp,fun x hx=>by rw [List.eq_of_mem_replicate hx];omega,Nat.two_pow_pos n,by simp [val]⟩
theorem Aad {l q:List Nat}{n k c:Nat}(h:UpI l n q k c)(hk:k<l.length)(hl:OkL l) :
  UpI l n (q.set k ((l.getD k 0*2 ^ n+c)%4294967296)) (k+1) ((l.getD k 0*2 ^ n+c)/4294967296):=by
 obtain ⟨h1,h2,h3,h4⟩:=h;have hx:=As hl k;refine ⟨by simpa using h1,Cn h2 (Nat.mod_lt _ (by omega)),?_,?_⟩
 ·refine Nat.div_lt_of_lt_mul ?_
  have:=Nat.mul_le_mul_right (2 ^ n) (show l.getD k 0+1≤4294967296 from hx);rw [Nat.add_mul] at this;omega
 ·rw [Bs _ _ _ (by omega),Ao l k hk,Nat.pow_succ,Nat.add_mul,←h4]
  have e:=(Nat.mod_add_div (l.getD k 0*2 ^ n+c) 4294967296).symm;generalize (l.getD k 0*2 ^ n+c)%4294967296=r at *;generalize (l.getD k 0*2 ^ n+c)/4294967296=s at *;generalize 4294967296 ^ k=p at *;have e2:p*(l.getD k 0*2 ^ n+c)=p*(r+4294967296*s):=by rw [e]
  simp only [Nat.mul_add] at e2;rw [←Nat.mul_assoc,←Nat.mul_assoc] at e2;omega
theorem Acv {l q:List Nat}{n c:Nat}(h:UpI l n q l.length c)(hn:n<32):(q.set l.length c).length=l.length+1∧OkL (q.set l.length c)∧val (q.set l.length c)=val l*2 ^ n:=by
 obtain ⟨h1,h2,h3,h4⟩:=h;have hc:2 ^ n≤2 ^ 31:=Nat.pow_le_pow_right (by omega) (by omega);refine ⟨by simpa using h1,Cn h2 (by omega),?_⟩;have:=Bs q l.length c (by omega);rw [List.take_of_length_le (by simp;omega)] at this;rw [this,h4,List.take_length]
theorem Afb (u c n:Nat)(hn:n<32)(hc:c<2 ^ n):u*2 ^ n%4294967296+c=(u*2 ^ n+c)%4294967296∧(u*2 ^ n)/4294967296=(u*2 ^ n+c)/4294967296∧(u*2 ^ n%4294967296) ||| c=u*2 ^ n%4294967296+c:=by
 have e:(4294967296:Nat)=2 ^ (32-n)*2 ^ n:=by rw [←Nat.pow_add,show 32-n+n=32 by omega]
 have h1:u*2 ^ n%4294967296=(u%2 ^ (32-n))*2 ^ n:=by rw [e,Nat.mul_mod_mul_right]
 have hm:u%2 ^ (32-n)<2 ^ (32-n):=Nat.mod_lt _ (Nat.two_pow_pos _)
 have hlt:u*2 ^ n%4294967296+c<4294967296:=by
  rw [h1];have:(u%2 ^ (32-n)+1)*2 ^ n≤2 ^ (32-n)*2 ^ n:=Nat.mul_le_mul_right _ hm;rw [←e,Nat.add_mul] at this;omega
 have hd:=Nat.div_add_mod (u*2 ^ n) 4294967296;refine ⟨?_,?_,?_⟩
 ·generalize u*2 ^ n=x at *
  omega
 ·generalize u*2 ^ n=x at *
  omega
 ·have h2:=Nat.shiftLeft_add_eq_or_of_lt (i:=n) (b:=c) hc (u%2 ^ (32-n))
  rw [Nat.shiftLeft_eq] at h2;rw [h1,h2]
theorem or32n (a b:Nat)(ha:a<4294967296)(hb:b<4294967296):bits .or .u32 a b=((a ||| b:Nat):Int):=(bits_nat .u32 32 (by decide) (fun n h₀ h₁=>by rw [IntKind.wrap_u32];omega) a b ha hb).2
theorem up_c (a:Option Addr)(c n:Nat)(l:List Nat)(w:World)(hl:l.length≤2147483648)(hn:n<32)(okl:OkL l)(h:Row w a (limV l)) :
  Calls Tryz.prog 305 #[.slice a l.length c,.int .u64 n] w fun e w'=>∃ r,e=.returned (.slice (some ⟨w.heap.size,0,none⟩) (l.length+1) (l.length+1))∧MagO w' w.heap.size (.slice (some ⟨w.heap.size,0,none⟩) (l.length+1) (l.length+1)) r∧OkL r∧r.length=l.length+1∧val r=val l*2 ^ n∧Ext w w':=by
 obtain ⟨b,off,ha,hc⟩:=h;replace ha:=mK ha;replace hc:=mK hc;have hmk:=fun w=>make32 (l.length+1) w (by omega);rw [show (((l.length+1:Nat)):Int)=(l.length:Int)+1 by omega] at hmk;have hst:=mK (Xg l n);go_enter Tryz.func305,Tryz.ntmps305;go_wp2_with fail;clear hmk;go_loopw [15,6] (fun i s wr=>∃ k cr q,k≤l.length∧i=.int .i64 (k:Nat)∧s=.int .u32 (cr:Nat)∧wr=w.alloc (.cells (limV q).toArray 150)∧UpI l n q k cr) (fun i _ _=>l.length-(intOf i).toNat)
 case atStart=>exact ⟨0,0,_,Nat.zero_le _,rfl,rfl,rfl,hst.out⟩
 case round=>
  clear hst;obtain ⟨k,cr,q,hk,rfl,rfl,rfl,hui⟩:=hrel;by_cases hlt:k<l.length
  ·have h1:=fun o=>((xR w).al o).cell (Ga hc.out hlt)
   have hA:=ha.out (Co hlt);have hu:=As okl k;have hq1:=hui.1;have hcr:=hui.2.2.1;have hold:=Ey (q:=q) (k:=k) (by omega);have hnext:=Aad hui hlt okl;have hlow:=Afb (l.getD k 0) cr n hn hcr;have hc32:cr<4294967296:=Nat.lt_trans hcr (Nat.lt_of_le_of_lt (Nat.pow_le_pow_right (by omega) (show n≤31 by omega)) (by omega));have ecast:(l.getD k 0:Int)*2 ^ n=((l.getD k 0*2 ^ n:Nat):Int):=by rw [Int.natCast_mul,Int.natCast_pow];rfl
   have hbnd:l.getD k 0*2 ^ n<18446744073709551616:=Nat.lt_of_lt_of_le (Nat.mul_lt_mul_of_lt_of_le hu (Nat.pow_le_pow_right (by omega) (show n≤31 by omega)) (Nat.two_pow_pos _)) (by decide)
   have e1:IntKind.u64.wrap ((l.getD k 0:Int)*2 ^ n)/4294967296%4294967296=(((l.getD k 0*2 ^ n+cr)/4294967296:Nat):Int):=by
    rw [ecast,←hlow.2.1,IntKind.wrap_u64];omega
   have e2:bits .or .u32 ((l.getD k 0:Int)*2 ^ n%4294967296) cr=(((l.getD k 0*2 ^ n+cr)%4294967296:Nat):Int):=by
    rw [ecast,show ((l.getD k 0*2 ^ n:Nat):Int)%4294967296=((l.getD k 0*2 ^ n%4294967296:Nat):Int) by omega,or32n _ _ (Nat.mod_lt _ (by omega)) hc32,hlow.2.2,hlow.1]
   have hset:=Bo q k ((l.getD k 0*2 ^ n+cr)%4294967296);rw [hA];replace hA:=mK hA;replace hui:=mK hui;clear hlow ecast hbnd;generalize (l.getD k 0*2 ^ n+cr)%4294967296=lo at *;generalize (l.getD k 0*2 ^ n+cr)/4294967296=hi at *;generalize l.getD k 0=u at *;generalize q.getD k 0=old at *;replace e1:=mK e1;replace e2:=mK e2;replace hset:=mK hset;replace hnext:=mK hnext;generalize hArr:(limV q).toArray=arr at *;replace hArr:=mK hArr;go_wp2_with fail;go_roundw
   case rel=>exact ⟨k+1,hi,_,by omega,by go_num,by rw [e1.out],by rw [e2.out,hset.out],hnext.out⟩
   case measure=>simp [intOf]<;>omega
  ·obtain rfl:k=l.length:=by omega
   have hq1:=hui.1;have hend:=mK (Acv hui hn);have hold:=Ey (q:=q) (k:=l.length) (by omega);have hset:=mK (Bo q l.length cr);generalize q.getD l.length 0=old at *;replace hui:=mK hui;replace hq1:=mK hq1;generalize hArr:(limV q).toArray=arr at *;replace hArr:=mK hArr;go_wp2_with fail;go_ret;obtain ⟨x1,x2,x3⟩:=hend.out;refine ⟨_,rfl,?_,x2,x1,x3,(xR w).al _⟩;rw [hset.out];have:=Cw (w:=w) (q:=q.set l.length cr) (by rw [x1];omega);rw [x1] at this;unfold MagO at this ⊢;rw [x1] at this ⊢;exact this
def St (p d:List Nat)(q k b:Nat)(r:List Nat):Prop:=
 r.length=p.length∧OkL r∧r.drop k=p.drop k∧b≤q∧val (p.take k)+4294967296 ^ k*b=val (r.take k)+q*val (d.take k)
theorem Rv (p d:List Nat)(q:Nat)(h:OkL p):St p d q 0 0 p:=⟨rfl,h,rfl,Nat.zero_le _,by simp [val]⟩
theorem Ec {r p:List Nat}{k:Nat}(h:r.drop k=p.drop k):r.getD k 0=p.getD k 0:=by
 have:=congrArg (fun l=>l.getD 0 0) h;simpa [List.getD_eq_getElem?_getD] using this
theorem Uj {p d r:List Nat}{q k b:Nat}(h:St p d q k b r)(hk:k<p.length)(hkd:k<d.length)(hd:OkL d)
  (x lo hi b' y:Nat) (hx:x=p.getD k 0) (hs:b+q*d.getD k 0=4294967296*hi+lo) (hy:y<4294967296) (hb:x+4294967296*b'=y+lo+4294967296*hi) :
  St p d q (k+1) b' (r.set k y):=by
 obtain ⟨h1,h2,h3,h4,h5⟩:=h;have e1:=Ao p k hk;have e2:=Ao d k hkd;have e3:=Bs r k y (by omega);rw [←hx] at e1;have hr:OkL (r.set k y):=Cn h2 hy
 have inv:val (p.take (k+1))+4294967296 ^ (k+1)*b'=val ((r.set k y).take (k+1))+q*val (d.take (k+1)):=by
  rw [e1,e2,e3,Nat.pow_succ];generalize 4294967296 ^ k=P at *;generalize d.getD k 0=v at *;have m1:P*(x+4294967296*b')=P*(y+(b+q*v)):=by rw [hb,hs];congr 1;omega
  clear e1 e2 e3 hb hs
  grind
 refine ⟨by simpa using h1,hr,?_,?_,inv⟩
 ·rw [List.drop_set_of_lt (by omega)]
  have:=congrArg (List.drop 1) h3;simpa [List.drop_drop,Nat.add_comm] using this
 ·have l1:=Cs (Cf hr (k+1))
  have l2:=Cs (Cf hd (k+1));have n1:((r.set k y).take (k+1)).length=k+1:=by rw [List.length_take,List.length_set];omega
  have n2:(d.take (k+1)).length=k+1:=by rw [List.length_take];omega
  rw [n1] at l1;rw [n2] at l2;generalize 4294967296 ^ (k+1)=P at *;have m1:q*val (d.take (k+1))≤q*P:=Nat.mul_le_mul_left _ (Nat.le_of_lt l2)
  have m2:P*b'<P*(q+1):=by
   rw [Nat.mul_add,Nat.mul_one,Nat.mul_comm P q];omega
  have:=Nat.lt_of_mul_lt_mul_left m2;omega
def Afa (p d:List Nat)(q:Nat)(neg:Bool)(r:List Nat):Prop:=
 r.length=p.length∧OkL r∧neg=decide (val p<q*val d)∧val p+(if neg then 4294967296 ^ p.length else 0)=val r+q*val d
theorem Yw {p d r:List Nat}{q b:Nat}(h:St p d q d.length b r)(hl:p.length=d.length+1)(y:Nat)(neg:Bool)(hy:y<4294967296)
  (hb:p.getD d.length 0+(if neg then 4294967296 else 0)=y+b):Afa p d q neg (r.set d.length y):=by
 obtain ⟨h1,h2,h3,h4,h5⟩:=h;have hr:OkL (r.set d.length y):=Cn h2 hy;have e1:=Ao p d.length (by omega);have e3:=Bs r d.length y (by omega);rw [List.take_of_length_le (by omega)] at e1;rw [List.take_of_length_le (by rw [List.length_set];omega)] at e3;rw [List.take_length] at h5
 have inv:val p+(if neg then 4294967296 ^ p.length else 0)=val (r.set d.length y)+q*val d:=by
  rw [e1,e3,hl,Nat.pow_succ];generalize 4294967296 ^ d.length=P at *;generalize p.getD d.length 0=x at *;cases neg with
  | true=>
   simp only [if_true] at hb ⊢;have m1:P*(x+4294967296)=P*(y+b):=by rw [hb]
   simp only [Nat.mul_add] at m1;omega
  | false=>
   simp only [Bool.false_eq_true,if_false,Nat.add_zero] at hb ⊢;have m1:P*x=P*(y+b):=by rw [hb]
   simp only [Nat.mul_add] at m1;omega
 refine ⟨by simpa using h1,hr,?_,inv⟩;have l1:=Cs hr;rw [List.length_set,h1] at l1;cases neg with
 | true=>
  simp only [if_true] at inv;have:val p<q*val d:=by omega
  simp [this]
 | false=>
  simp only [Bool.false_eq_true,if_false,Nat.add_zero] at inv;have:¬val p<q*val d:=by omega
  simp [this]
theorem Ek {l:List Nat}{j:Nat}(h:j<l.length):(limV l)[j]? = some (.int .u32 ((l.getD j 0:Nat):Int)):=by simp [limV,h]
theorem Ky (pre p post:List Nat)(k v:Nat)(hk:k<p.length):(pre++p++post).set (pre.length+k) v=pre++p.set k v++post:=by
 rw [List.append_assoc,List.set_append_right _ _ (by omega),Nat.add_sub_cancel_left,List.set_append_left _ _ hk,←List.append_assoc]
theorem Jj (pre p post:List Nat)(k:Nat)(hk:k<p.length):(pre++p++post).getD (pre.length+k) 0=p.getD k 0:=by
 simp only [List.getD_eq_getElem?_getD];rw [List.append_assoc,List.getElem?_append_right (by omega),Nat.add_sub_cancel_left,List.getElem?_append_left hk]
theorem Du {w:World}{a:Addr}{v:Value}(hv:w.cell? a=some v):a.block<w.heap.size:=by
 unfold World.cell? at hv;split at hv
 ·rename_i he
  exact (Array.getElem?_eq_some_iff.1 he).1
 ·cases hv
def Drw (w w':World):Prop:=∃ n,w'=w.drewN n
theorem Drw.trans {a b c:World}(h:Drw a b)(k:Drw b c):Drw a c:=by
 obtain ⟨n,rfl⟩:=h;obtain ⟨m,rfl⟩:=k;exact ⟨_,World.drewN_drewN ..⟩
theorem Drw.cell {w w':World}(h:Drw w w')(a:Addr):w'.cell? a=w.cell? a:=Zo h a
theorem Drw.ext {w w':World}(h:Drw w w'):Ext w w':=by
 obtain ⟨n,rfl⟩:=h;exact (xR w).drN n
theorem Drw.heap {w w':World}(h:Drw w w'):w'.heap=w.heap:=by
 obtain ⟨n,rfl⟩:=h;rfl
theorem Jb {w w':World}(h:w'.heap=w.heap){base E sz n:Nat}{v:Value}{xs:List Value}(ho:w.ownsRow base E sz v n xs):w'.ownsRow base E sz v n xs:=by
 unfold World.ownsRow at *;rw [h];exact ho
theorem Yb {w:World}{base E g n cap:Nat}{xs:List Value}(h:w.ownsRow base E 1 (.slice (some ⟨g,0,none⟩) n cap) n xs){j:Nat}(hj:j<n):∃ old,w.cell? ⟨g,j,none⟩=some old:=by
 have hl:=h.1;exact ⟨_,(h.cellAt j (by omega)).trans (List.getElem?_eq_getElem (by omega))⟩
theorem Ru {q v b:Nat}(hq:q<4294967296)(hv:v<4294967296)(hb:b≤q):0≤(q:Int)*v∧(q:Int)*v≤18446744065119617025∧(b:Int)+(q:Int)*v≤18446744073709551615:=by
 have h:q*v≤4294967295*4294967295:=Nat.mul_le_mul (by omega) (by omega);have e:(q:Int)*v=((q*v:Nat):Int):=by simp
 rw [e];omega
theorem Af0 (base g gd off n cap c m md _cd q:Nat)(pre p post d:List Nat)(w:World)(hpre:pre.length=off)(hp:p.length=m+1)(hd:d.length=m)(hn:n≤4294967296)(hlen:off+(m+1)+post.length=n)(_hcap:m+1≤c)(okd:OkL d)(okp:OkL p)(hq:q<4294967296)(hgd:gd≠g)
  (ho:w.ownsRow base 150 1 (.slice (some ⟨g,0,none⟩) n cap) n (limV (pre++p++post))) (hdr:∀ j,j<m→w.cell? ⟨gd,j,none⟩=some (.int .u32 (d.getD j 0:Nat))) :
  Calls Tryz.prog 306 #[.slice (some ⟨g,off,none⟩) (m+1) c,.slice (some ⟨gd,0,none⟩) m md,.int .u64 q] w fun e w'=>∃ r neg,e=.returned (.bool neg)∧Afa p d q neg r ∧
   w'.ownsRow base 150 1 (.slice (some ⟨g,0,none⟩) n cap) n (limV (pre++r++post))∧w.grownBy w' (some g):=by
 have hst:=mK (Rv p d q okp);replace ho:=mK ho;replace hdr:=mK hdr;replace hp:=mK hp;replace hd:=mK hd;replace hpre:=mK hpre;go_enter Tryz.func306,Tryz.ntmps306;go_wp2_with fail;go_loopw [14,7] (fun i s wr=>∃ k b r,k≤m∧i=.int .i64 (k:Nat)∧s=.int .u64 (b:Nat)∧St p d q k b r∧wr.ownsRow base 150 1 (.slice (some ⟨g,0,none⟩) n cap) n (limV (pre++r++post))∧w.grownBy wr (some g)) (fun i _ _=>m-(intOf i).toNat)
 case atStart=>exact ⟨0,0,p,Nat.zero_le _,rfl,rfl,hst.out,ho.out,World.grownBy.refl _ _⟩
 case round=>
  clear hst ho;obtain ⟨k,b,r,hk,rfl,rfl,hli,ho,hgr⟩:=hrel;by_cases hlt:k<m
  ·have hrl:r.length=m+1:=by rw [hli.1,hp.out]
   have hdk:wr.cell? ⟨gd,k,none⟩=some (.int .u32 (d.getD k 0:Nat)):=by
    have h1:=hdr.out k hlt;rw [hgr.cell_far _ (Du h1) (fun e=>hgd (by simpa using e))];exact h1
   have hx:r.getD k 0=p.getD k 0:=Ec hli.2.2.1
   have hcell:wr.cell? ⟨g,off+k,none⟩=some (.int .u32 (p.getD k 0:Nat)):=by
    rw [ho.cellAt (off+k) (by omega),←hx,←hpre.out,←Jj pre r post k (by omega)];exact Ek (by simp;omega)
   have hfz:=ho.frozenAt (off+k);have hv:=As okd k;have hxl:=As okp k;have hb:=hli.2.2.2.1;have hbd:=Ru hq hv hb;have hnext:=fun lo hi b' y h1 h2 h3=>Uj hli (by rw [hp.out];omega) (by rw [hd.out];exact hlt) okd (p.getD k 0) lo hi b' y rfl h1 h2 h3;generalize p.getD k 0=x at *;generalize d.getD k 0=v at *;clear hx;obtain ⟨S,hS⟩:=nmE (b+q*v);have eS:(b:Int)+(q:Int)*v=(S:Int):=by rw [hS];simp
   have hSl:S<18446744073709551616:=by omega
   obtain ⟨Y,hY⟩:=nmE ((x+4294967296-S%4294967296)%4294967296);obtain ⟨B',hB'⟩:∃ B',B'=S/4294967296+(if x<S%4294967296 then 1 else 0):=⟨_,rfl⟩
   have f1:IntKind.u64.wrap ((x:Int)-((b:Int)+(q:Int)*v)%4294967296)%4294967296=(Y:Int):=by
    rw [eS,hY,IntKind.wrap_u64];omega
   have f2:IntKind.u64.wrap (((b:Int)+(q:Int)*v)/4294967296+IntKind.u64.wrap ((x:Int)-((b:Int)+(q:Int)*v)%4294967296)/9223372036854775808)=(B':Int):=by
    rw [eS,hB',IntKind.wrap_u64,IntKind.wrap_u64];split<;>omega
   have hn2:=hnext (S%4294967296) (S/4294967296) B' Y (by rw [←hS];omega) (by rw [hY];omega) (by rw [hY,hB'];split<;>omega);obtain ⟨hs1,hs2⟩:=ho.stored (off+k) (.int .u32 (Y:Nat));rw [Dm,←hpre.out,Ky pre r post k Y (by omega),hpre.out] at hs1;replace hs2:=hgr.trans hs2;replace hs1:=mK hs1;replace hs2:=mK hs2;replace f1:=mK f1;replace f2:=mK f2;replace hn2:=mK hn2;replace hS:=mK hS;replace eS:=mK eS;replace hY:=mK hY;replace hB':=mK hB';clear hnext;replace hli:=mK hli;replace ho:=mK ho;replace hgr:=mK hgr;go_wp2_with fail;go_roundw
   case rel=>
    refine ⟨k+1,B',r.set k Y,by omega,by go_num,by rw [f2.out],hn2.out,?_,?_⟩
    ·rw [f1.out];exact hs1.out
    ·rw [f1.out];exact hs2.out
   case measure=>simp [intOf]<;>omega
  ·obtain rfl:m=k:=by omega
   clear hlt hk;have hrl:r.length=m+1:=by rw [hli.1,hp.out]
   have hx:r.getD m 0=p.getD m 0:=Ec hli.2.2.1
   have hcell:wr.cell? ⟨g,off+m,none⟩=some (.int .u32 (p.getD m 0:Nat)):=by
    rw [ho.cellAt (off+m) (by omega),←hx,←hpre.out,←Jj pre r post m (by omega)];exact Ek (by simp;omega)
   have hfz:=ho.frozenAt (off+m);have hxl:=As okp m;have hb:=hli.2.2.2.1;have hend:=fun y neg h1 h2=>Yw (hd.out ▸ hli) (by rw [hp.out,hd.out]) y neg h1 h2;rw [hd.out] at hend;generalize p.getD m 0=x at *;clear hx;obtain ⟨Y,hY⟩:=nmE ((x+4294967296-b)%4294967296);have f1:IntKind.u64.wrap ((x:Int)-b)%4294967296=(Y:Int):=by rw [hY,IntKind.wrap_u64];omega
   have f2:((IntKind.u64.wrap ((x:Int)-b)/9223372036854775808)==1)=decide (x<b):=by
    rw [Bool.eq_iff_iff,beq_iff_eq,decide_eq_true_iff,IntKind.wrap_u64];omega
   have hR:=hend Y (decide (x<b)) (by rw [hY];omega) (by
    by_cases h:x<b
    ·rw [decide_eq_true h,if_pos rfl,hY];omega
    ·rw [decide_eq_false h,if_neg (by simp),hY];omega)
   obtain ⟨hs1,hs2⟩:=ho.stored (off+m) (.int .u32 (Y:Nat));rw [Dm,←hpre.out,Ky pre r post m Y (by omega),hpre.out] at hs1;replace hs2:=hgr.trans hs2;replace hs1:=mK hs1;replace hs2:=mK hs2;replace f1:=mK f1;replace f2:=mK f2;replace hR:=mK hR;replace hY:=mK hY;clear hend;replace hli:=mK hli;replace ho:=mK ho;replace hgr:=mK hgr;go_wp2_with fail;go_ret;refine ⟨r.set m Y,decide (x<b),by rw [←f2.out];rfl,hR.out,?_,?_⟩
   ·rw [f1.out];exact hs1.out
   ·rw [f1.out];exact hs2.out
theorem Sc {P D v1 hd C:Nat}(hv:0<v1)(hP:P<(hd+1)*C)(hD:v1*C≤D):P/D≤hd/v1:=by
 rw [Nat.le_div_iff_mul_le hv];have h1:P/D*D≤P:=Nat.div_mul_le_self P D;have h2:P/D*(v1*C)≤P/D*D:=Nat.mul_le_mul_left _ hD;have h3:P/D*v1*C<(hd+1)*C:=by rw [Nat.mul_assoc];omega
 have:=Nat.lt_of_mul_lt_mul_right h3;omega
theorem Yy {P D v1 v2 hd u2 W B g r:Nat}(hB:P/D<B)(hW:0<W)(hP:P<(hd*B+u2+1)*W)(hD:(v1*B+v2)*W≤D)(hg:P/D≤g)(he:g*v1+r=hd)
  (hc:B≤g∨r*B+u2<g*v2):1≤g∧P/D≤g-1∧(g-1)*v1+(r+v1)=hd:=by
 have h1:P/D<g:=by
  rcases hc with h|h
  ·omega
  ·have hD0:0<D:=by
    rcases Nat.eq_zero_or_pos D with h0|h0
    ·subst h0
     have hz:(v1*B+v2)*W=0:=by omega
     rcases Nat.mul_eq_zero.1 hz with h2|h2
     ·have:v2=0:=by omega
      subst this;omega
     ·omega
    ·exact h0
   rw [Nat.div_lt_iff_lt_mul hD0]
   have h2:hd*B+u2+1≤g*(v1*B+v2):=by
    rw [←he,Nat.add_mul,Nat.mul_add,←Nat.mul_assoc];omega
   have h3:(hd*B+u2+1)*W≤g*(v1*B+v2)*W:=Nat.mul_le_mul_right _ h2;have h4:g*((v1*B+v2)*W)≤g*D:=Nat.mul_le_mul_left _ hD;rw [←Nat.mul_assoc] at h4;omega
 generalize P/D=qd at *;obtain ⟨k,rfl⟩:∃ k,g=k+1:=⟨g-1,by omega⟩
 refine ⟨by omega,by omega,?_⟩;rw [Nat.add_sub_cancel];rw [Nat.add_mul] at he;omega
theorem Yx {P D v1 v2 hd u2 W B g r Dr:Nat}(hD0:0<D)(hP:(hd*B+u2)*W≤P)(hD:D=(v1*B+v2)*W+Dr)(hDr:Dr<W)(hv:0<v1)(he:g*v1+r=hd)(hgB:g<B)(hc:g*v2≤r*B+u2):g≤P/D+1:=by
 rcases Nat.eq_zero_or_pos g with h0|h0
 ·rw [h0]
  exact Nat.zero_le _
 ·obtain ⟨k,rfl⟩:∃ k,g=k+1:=⟨g-1,by omega⟩
  have:k≤P/D:=by
   rw [Nat.le_div_iff_mul_le hD0]
   have h2:(k+1)*(v1*B+v2)≤hd*B+u2:=by
    rw [←he,Nat.add_mul ((k+1)*v1),Nat.mul_add (k+1),←Nat.mul_assoc];omega
   have h3:(k+1)*(v1*B+v2)*W≤(hd*B+u2)*W:=Nat.mul_le_mul_right _ h2;have h4:(k+1)*Dr≤B*W:=Nat.mul_le_mul (Nat.le_of_lt hgB) (Nat.le_of_lt hDr)
   have h5:B*W≤v1*B*W:=by
    have:=Nat.mul_le_mul_right (B*W) (show 1≤v1 from hv);rw [Nat.one_mul,←Nat.mul_assoc] at this;exact this
   have h6:v1*B*W≤(v1*B+v2)*W:=Nat.mul_le_mul_right _ (by omega)
   have h7:(k+1)*D=(k+1)*(v1*B+v2)*W+(k+1)*Dr:=by
    rw [hD,Nat.mul_add,←Nat.mul_assoc]
   rw [Nat.add_mul,Nat.one_mul] at h7;omega
  exact Nat.succ_le_succ this
def DivI (m D L nl nq:Nat)(i:Nat)(l q:List Nat):Prop:=
 l.length=nl∧q.length=nq∧OkL l∧OkL q∧val l+D*val q=L∧val (l.drop i)<D∧(∀ j,j<i→q.getD j 0=0)∧D<4294967296 ^ m
def Di (l:List Nat)(i m:Nat):List Nat:=(l.drop i).take (m+1)
theorem To (l:List Nat)(i m:Nat):l=l.take i++Di l i m++l.drop (i+(m+1)):=by
 unfold Di;rw [List.append_assoc,←List.drop_drop,List.take_append_drop,List.take_append_drop]
theorem Iz {l:List Nat}{i m:Nat}(h:i+(m+1)≤l.length):(Di l i m).length=m+1:=by
 unfold Di;rw [List.length_take,List.length_drop];omega
theorem Rl {l:List Nat}(h:OkL l)(i m:Nat):OkL (Di l i m):=Cf (Rp h i) _
theorem Rk {m D L nl nq i:Nat}{l q:List Nat}(h:DivI m D L nl nq (i+1) l q)(hi:i+(m+1)≤nl) :
  val (l.drop (i+(m+1)))=0∧val (Di l i m)<4294967296*D∧val l=val (l.take i)+4294967296 ^ i*val (Di l i m):=by
 obtain ⟨h1,h2,h3,h4,h5,h6,h7,h8⟩:=h;have hil:i<l.length:=by omega
 have e1:l.drop i=l.getD i 0::l.drop (i+1):=by rw [List.drop_eq_getElem_cons hil];simp [hil]
 have hx:=As h3 i;have e2:Di l i m=l.getD i 0::(l.drop (i+1)).take m:=by unfold Di;rw [e1,List.take_succ_cons]
 have hm:((l.drop (i+1)).take m).length=m:=by rw [List.length_take,List.length_drop];omega
 have e3:=Ea (l.drop (i+1)) m;rw [hm,List.drop_drop,show i+1+m=i+(m+1) by omega] at e3
 have hz:val (l.drop (i+(m+1)))=0:=by
  rcases Nat.eq_zero_or_pos (val (l.drop (i+(m+1)))) with h0|h0
  ·exact h0
  ·have:=Nat.mul_le_mul_left (4294967296 ^ m) h0
   omega
 rw [hz] at e3;have e4:=Ea l i;have e5:=Ea (l.drop i) (m+1);rw [List.drop_drop,hz,Nat.mul_zero,Nat.add_zero] at e5;have ht:(l.take i).length=i:=by rw [List.length_take];omega
 rw [ht,e5] at e4;refine ⟨hz,?_,e4⟩;rw [e2];simp only [val];omega
theorem Od {m D L nl nq i:Nat}{l q p':List Nat}(h:DivI m D L nl nq (i+1) l q)(hi:i+(m+1)≤nl)(hq:i<nq)(hp:OkL p')(hpl:p'.length=m+1)(hv:val p'=val (Di l i m)%D)(hD0:0<D) :
  DivI m D L nl nq i (l.take i++p'++l.drop (i+(m+1))) (q.set i (val (Di l i m)/D)):=by
 obtain ⟨hz,hlt,hl⟩:=Rk h hi;obtain ⟨h1,h2,h3,h4,h5,h6,h7,h8⟩:=h;have ht:(l.take i).length=i:=by rw [List.length_take];omega
 have hqd:val (Di l i m)/D<4294967296:=by rw [Nat.div_lt_iff_lt_mul hD0];exact hlt
 have vs:=Vo (l:=q) (j:=i) (by omega) (val (Di l i m)/D);rw [h7 i (by omega),Nat.mul_zero,Nat.add_zero] at vs
 have vl:val (l.take i++p'++l.drop (i+(m+1)))=val (l.take i)+4294967296 ^ i*val p':=by
  rw [List.append_assoc,Dt,Dt,hz,ht,Nat.mul_zero,Nat.add_zero]
 refine ⟨?_,by simpa using h2,?_,Cn h4 hqd,?_,?_,?_,h8⟩
 ·simp [List.length_take,hpl];omega
 ·rw [okL_append,okL_append]
  exact ⟨⟨Cf h3 _,hp⟩,Rp h3 _⟩
 ·rw [vl,vs,hv,←h5,hl]
  have e:=Nat.div_add_mod (val (Di l i m)) D;generalize val (Di l i m)/D=a at *;generalize val (Di l i m)%D=b at *;rw [←e];generalize 4294967296 ^ i=P
  grind
 ·rw [List.append_assoc,List.drop_append_of_le_length (by omega),List.drop_of_length_le (by omega),List.nil_append,Dt,hz,hv,Nat.mul_zero,Nat.add_zero]
  exact Nat.mod_lt _ hD0
 ·intro j hj
  have:=h7 j (by omega);simpa [List.getD_eq_getElem?_getD,List.getElem?_set_ne (show i≠j by omega)] using this
end Go.Proofs.YtlknpnommcohkaaGreatDoor
