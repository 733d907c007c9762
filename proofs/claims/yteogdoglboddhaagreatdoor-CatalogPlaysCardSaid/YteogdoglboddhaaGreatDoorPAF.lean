/-
  The catalogue's map: parts by names, read as a list. The catalogue that is gone: its methods, and the reference's: printed by tools/gen_gone.py. period: (*row).on. ray: Check. law01: TwinFrac, TwinRay, TwinMatrix, LeftFrac, LeftRay, LeftMatrix: printed by tools/gen_twin.py. law01: TwinFrac, once more: the twin's rows lie apart. law01: TwinElement, TwinPart (the twins' rows lie apart), LeftElement, LeftPart: printed by tools/gen_part.py. The Book: what fill, grow and look do for a kind of which nothing is kept. The Book: marks; entries.
-/
import Derived.Test.YteogdoglboddhaaGreatDoorPAE
import Derived.Maps.OwnSet
import Derived.Maps.Ext
import Derived.Test.YteogdoglboddhaaGreatDoorPAC
import Derived.LoopN
import Derived.Test.YteogdoglboddhaaGreatDoorPAA
import Derived.Deep.LoopGhost
import Derived.Test.YteogdoglboddhaaGreatDoorProg
set_option maxHeartbeats 6400000
namespace Go.Proofs.YteogdoglboddhaaGreatDoor
set_option maxRecDepth 100000
open Go Go.RowKit Go.Proofs
def Su (v:Value):Option (DataW Value×List MemPlace):=some (.held v,[])
def keyL (s:ByteArray):Lit:=.string s.data.toList
def entM (p:PD×Value):Lit×DataW Value:=(keyL p.1.nm,.held p.2)
def MapP (w:World)(M:Nat)(es:List (PD×Value)):Prop:=w.ownsMap Tryz.prog 9 Su M es.length (.map (es.map entM))
def Bb (s:ByteArray)(p:PD×Value):Bool:=p.1.nm.data.toList==s.data.toList
def Ay (s:ByteArray)(es:List (PD×Value)):Option (PD×Value):=es.find? (Bb s)
abbrev zeroPart:Value:=.agg #[.string ⟨#[]⟩,.int .u8 0,.bool false,.slice none 0 0,.bool false,.slice none 0 0,.bool false,.slice none 0 0,.bool false,.slice none 0 0,.int .i64 0]
theorem Nm (s:ByteArray)(p:PD×Value):(entM p).1.sameKey (keyL s)=Bb s p:=rfl
theorem Wy (s:ByteArray):∀ es:List (PD×Value),Maps.has (.map (es.map entM)) (keyL s)=(Ay s es).isSome
 | []=>rfl
 | p::r=>by
  have ih:=Wy s r
  rw [Maps.has_eq] at ih ⊢
  simp only [List.map_cons,List.any_cons,Nm,Ay,List.find?_cons]
  cases h:Bb s p with
  | true=>simp
  | false=>
   simp only [Bool.false_or]
   exact ih
theorem Abx (s:ByteArray)(z:Value)(es:List (PD×Value)):(DataW.map (es.map entM)).atKey (keyL s) (.held z)=.held (((Ay s es).map (·.2)).getD z):=by
 have e:(es.map entM).find? (fun p=>p.1.sameKey (keyL s))=(es.find? (Bb s)).map entM:=by
  rw [List.find?_map];rfl
 unfold Ay DataW.atKey;simp only [e];cases es.find? (Bb s)<;>rfl
theorem Lw (w:World):(zeroValue 58).run Tryz.prog w=.ok zeroPart w:=by kernel_rfl
theorem Gz:Maps.Keyed Tryz.prog 9:=Maps.string_keyed Tryz.underlying9
theorem Oo {s:ByteArray}(hs:s.size≤maxLen):keyOf Tryz.prog 9 (.string s)=some (keyL s):=WideMaps.keyOf_string_mk Tryz.underlying9 hs
theorem St {v:Value}{d:DataW Value}{ps:List MemPlace}(h:Su v=some (d,ps)):d=.held v:=by
 unfold Su at h;cases h;rfl
theorem MapP.look {w:World}{M:Nat}{es:List (PD×Value)}(h:MapP w M es)(s:ByteArray)(hs:s.size≤maxLen) :
  (Instr.lookup 70 (.map (some M)) (.string s) true).run Tryz.prog w=.ok (.tuple #[((Ay s es).map (·.2)).getD zeroPart,.bool (Ay s es).isSome]) w:=by
 obtain ⟨v,ps,h1,h2⟩:=World.ownsMap.look_ok h Gz Tryz.underlying70 (Lw w) (zd:=.held zeroPart) rfl (Oo hs);have h3:=St h2;rw [Abx] at h3;cases h3;rw [h1,Wy]
theorem MapP.look1 {w:World}{M:Nat}{es:List (PD×Value)}(h:MapP w M es)(s:ByteArray)(hs:s.size≤maxLen) :
  (Instr.lookup 70 (.map (some M)) (.string s) false).run Tryz.prog w=.ok (((Ay s es).map (·.2)).getD zeroPart) w:=by
 obtain ⟨v,ps,h1,h2⟩:=World.ownsMap.lookup h Gz Tryz.underlying70 (Lw w) (zd:=.held zeroPart) rfl (Oo hs);have h3:=St h2;rw [Abx] at h3;cases h3;exact h1
theorem MapP.len {w:World}{M:Nat}{es:List (PD×Value)}(h:MapP w M es)(ty:TypeId):(Builtin.len_ #[70] ty #[.map (some M)]).run Tryz.prog w=.ok (.int .i64 es.length) w:=by
 have:=World.ownsMap.len h Tryz.underlying70 ty;rw [this,Maps.size_eq,List.length_map]
def insP (x:PD×Value):List (PD×Value)→List (PD×Value)
 | []=>[x]
 | y::r=>if bytesBefore x.1.nm.data.toList y.1.nm.data.toList then x::y::r else y::insP x r
theorem Ge (x:PD×Value):∀ es,(insP x es).length=es.length+1
 | []=>rfl
 | y::r=>by
  unfold insP
  split
  ·rfl
  ·simp [Ge x r]
theorem Abm (x:PD×Value):∀ es:List (PD×Value),DataW.insert (entM x) (es.map entM)=(insP x es).map entM
 | []=>rfl
 | y::r=>by
  show (if bytesBefore x.1.nm.data.toList y.1.nm.data.toList then entM x::entM y::r.map entM else entM y::DataW.insert (entM x) (r.map entM))=_
  unfold insP
  split
  ·rfl
  ·rw [Abm x r]
   rfl
theorem Xj {s:ByteArray}{es:List (PD×Value)}(h:Ay s es=none):(es.map entM).filter (fun p=>!p.1.sameKey (keyL s))=es.map entM:=by
 rw [List.filter_eq_self];intro p hp;obtain ⟨q,hq,rfl⟩:=List.mem_map.1 hp;rw [Nm];have:=List.find?_eq_none.1 h q hq;simpa using this
theorem Jd {P:Program}{k M n:Nat}{w:World}{es:List (PD×Value)}(h:w.ownsMap P k Su M n (.map (es.map entM))):w.ownsMap P k Su M es.length (.map (es.map entM)):=by
 obtain ⟨a,clock,hb,F,hs,hD⟩:=h;refine ⟨a,clock,hb,F,?_,hD⟩;have:=congrArg Maps.size hD;simp only [Maps.size_eq,List.length_map,length_sorted,Array.length_toList] at this;omega
theorem MapP.store {w:World}{M:Nat}{es:List (PD×Value)}(h:MapP w M es)(x:PD×Value)(hs:x.1.nm.size≤maxLen)(hn:es.length<maxLen)(hf:Ay x.1.nm es=none) :
  ∃ w',(Instr.mapUpdate 70 (.map (some M)) (.string x.1.nm) x.2).run Tryz.prog w=.ok () w'∧MapP w' M (insP x es)∧w.mapTurned w' M:=by
 obtain ⟨w',h1,h2,h3⟩:=World.ownsMap.store h Gz Tryz.underlying70 hn (Oo hs) (val:=x.2) (d:=.held x.2) (ps:=[]) rfl;refine ⟨w',h1,?_,h3⟩
 have e:(DataW.map (es.map entM)).put (keyL x.1.nm) (.held x.2)=.map ((insP x es).map entM):=by
  show DataW.map (DataW.insert (entM x) ((es.map entM).filter fun p=>!p.1.sameKey (keyL x.1.nm)))=_
  rw [Xj hf,Abm]
 rw [e] at h2;exact Jd h2
theorem MapP.drop {w:World}{M:Nat}{es:List (PD×Value)}(h:MapP w M es)(s:ByteArray)(hs:s.size≤maxLen)(ty:TypeId) :
  ∃ w',(Builtin.delete_ #[70,9] ty #[.map (some M),.string s]).run Tryz.prog w=.ok (.tuple #[]) w'∧MapP w' M (es.filter fun p=>!Bb s p)∧w.mapTurned w' M:=by
 obtain ⟨w',h1,h2,h3⟩:=World.ownsMap.drop h Gz Tryz.underlying70 (Oo hs) ty;refine ⟨w',h1,?_,h3⟩
 have e:(DataW.map (es.map entM)).del (keyL s)=.map ((es.filter fun p=>!Bb s p).map entM):=by
  show DataW.map ((es.map entM).filter fun p=>!p.1.sameKey (keyL s))=_
  rw [List.filter_map];rfl
 rw [e] at h2;exact Jd h2
def Rising (es:List (PD×Value)):Prop:=es.Pairwise fun a b=>bytesBefore a.1.nm.data.toList b.1.nm.data.toList=true
theorem MapP.rising {w:World}{M:Nat}{es:List (PD×Value)}(h:MapP w M es):Rising es:=by
 obtain ⟨l,h1,h2,_⟩:=World.ownsMap.canon h Gz;cases h1;exact List.pairwise_map.1 h2
theorem MapP.blk {w w':World}{M:Nat}{es:List (PD×Value)}(h:MapP w M es)(e:w'.heap[M]? = w.heap[M]?):MapP w' M es:=by
 obtain ⟨a,clock,hb,r⟩:=h;exact ⟨a,clock,e.trans hb,r⟩
theorem MapP.lt {w:World}{M:Nat}{es:List (PD×Value)}(h:MapP w M es):M<w.heap.size:=World.ownsMap.lt h
theorem Ac4 (w:World):MapP (w.alloc (.map #[] 0)) w.heap.size []:=World.ownsMap_made _ _ _ _
theorem cell0 {w:World}{g T:Nat}{v:Value}(h:w.heap[g]? = some (.cells #[v] T (0,0))):w.cell? ⟨g,0,none⟩=some v:=by simp [World.cell?,h]
theorem Fo {ss:List FSpec}(q:Rat)(h:StableAll Ext ss):StableAll Ext (.pred (fun W v=>FracR W v q)::ss):=⟨fun _ _ _ e h=>FracR.ext h e,h⟩
theorem Aa {w:World}{g T:Nat}{c:Array Value}(h:w.heap[g]? = some (.cells c T (0,0)))(k:Nat):w.cell? ⟨g,k,none⟩=c[k]?:=by simp [World.cell?,h]
def TwF (w:World)(v:Value)(b1:Bool)(l1:List Nat)(b2:Bool)(l2:List Nat):Prop:=
 ∃ a1 c1 a2 c2,v=.agg #[.bool b1,.slice a1 l1.length c1,.bool b2,.slice a2 l2.length c2]∧TwinR w (.agg #[.bool b1,.slice a1 l1.length c1]) b1 l1∧TwinR w (.agg #[.bool b2,.slice a2 l2.length c2]) b2 l2
theorem TwF.ext {w w':World}{v:Value}{b1 b2:Bool}{l1 l2:List Nat}(h:TwF w v b1 l1 b2 l2)(e:Ext w w'):TwF w' v b1 l1 b2 l2:=by
 obtain ⟨a1,c1,a2,c2,h1,h2,h3⟩:=h;exact ⟨a1,c1,a2,c2,h1,h2.ext e,h3.ext e⟩
theorem AnyL.ext {w w':World}{v:Value}{b1 b2:Bool}{l1 l2:List Nat}(h:AnyL w v b1 l1 b2 l2)(e:Ext w w'):AnyL w' v b1 l1 b2 l2:=by
 obtain ⟨a1,c1,a2,c2,h1,h2,h3,h4,h5⟩:=h;exact ⟨a1,c1,a2,c2,h1,h2,h3,h4.ext e,h5.ext e⟩
theorem Zt (bf1:Bool)(lf1:List Nat)(bf2:Bool)(lf2:List Nat)(af1 af1':Option Addr)(mf1 cf1 cf1':Nat)(af2 af2':Option Addr)(mf2 cf2 cf2':Nat)(w:World)(kf1:lf1.length≤4294967296)(kf2:lf2.length≤4294967296)(t0:TwinR w (.agg #[.bool bf1,.slice af1' mf1 cf1']) bf1 lf1)(t1:TwinR w (.agg #[.bool bf2,.slice af2' mf2 cf2']) bf2 lf2)(u0:AnyR w (.agg #[.bool bf1,.slice af1 mf1 cf1]) bf1 lf1)(u1:AnyR w (.agg #[.bool bf2,.slice af2 mf2 cf2]) bf2 lf2) :
  Calls Tryz.prog 26 #[.agg #[.bool bf1,.slice af1' mf1 cf1',.bool bf2,.slice af2' mf2 cf2'],.agg #[.bool bf1,.slice af1 mf1 cf1,.bool bf2,.slice af2 mf2 cf2]] w fun e w'=>e=.returned (.bool true)∧Ext w w':=by
 have K0:=mK (fun W (e:Ext w W)=>Sr _ _ bf1 lf1 W kf1 (t0.ext e) (u0.ext e));have K1:=mK (fun W (e:Ext w W)=>Sr _ _ bf2 lf2 W kf2 (t1.ext e) (u1.ext e));clear t0 t1 u0 u1 kf1 kf2;obtain ⟨wb,hwb⟩:=nmE ((w.alloc (.cells #[.bool bf1,.slice af1' mf1 cf1',.bool bf2,.slice af2' mf2 cf2'] 54)).alloc (.cells #[.bool bf1,.slice af1 mf1 cf1,.bool bf2,.slice af2 mf2 cf2] 54));have hE:=mK (aLe2 hwb);have z0:=mK (aL20 hwb);have z1:=mK (aL21 hwb);replace hwb:=mK hwb;go_enter Tryz.func26,Tryz.ntmps26;go_wp2_with fail;rw [←hwb.out];clear hwb;refine (K0.out _ hE.out).mono ?_;rintro e w1 ⟨rfl,hE1⟩;replace z0:=mK (hE1.blk z0.out);replace z1:=mK (hE1.blk z1.out);replace hE:=mK (hE.out.trans hE1);clear hE1;have y0:w1.cell? ⟨w.heap.size,2,none⟩=some (.bool bf2):=Aa z0.out 2;have x0:w1.cell? ⟨w.heap.size+1,2,none⟩=some (.bool bf2):=Aa z1.out 2;have y1:w1.cell? ⟨w.heap.size,3,none⟩=some (.slice af2' mf2 cf2'):=Aa z0.out 3;have x1:w1.cell? ⟨w.heap.size+1,3,none⟩=some (.slice af2 mf2 cf2):=Aa z1.out 3;go_wp2_with fail;clear x0 y0 x1 y1;refine (K1.out _ hE.out).mono ?_;rintro e w2 ⟨rfl,hE2⟩;replace z0:=mK (hE2.blk z0.out);replace z1:=mK (hE2.blk z1.out);replace hE:=mK (hE.out.trans hE2);clear hE2;go_wp2_with fail;go_ret;exact ⟨rfl,hE.out⟩

theorem Jw (v x:Value)(b1:Bool)(l1:List Nat)(b2:Bool)(l2:List Nat)(w:World)(k1:l1.length≤4294967296)(k2:l2.length≤4294967296)(t:TwF w v b1 l1 b2 l2)(u:AnyL w x b1 l1 b2 l2) :
  Calls Tryz.prog 26 #[v,x] w fun e w'=>e=.returned (.bool true)∧Ext w w':=by
 obtain ⟨a1,c1,a2,c2,rfl,t1,t2⟩:=t;obtain ⟨d1,e1,d2,e2,rfl,-,-,u1,u2⟩:=u;exact Zt b1 l1 b2 l2 _ _ _ _ _ _ _ _ _ _ w k1 k2 t1 t2 u1 u2

def TwFK (lo:Nat)(w:World)(v:Value)(b1:Bool)(l1:List Nat)(b2:Bool)(l2:List Nat):Prop:=
 ∃ g1 g2,v=.agg #[.bool b1,.slice (some ⟨g1,0,none⟩) l1.length (l1.length+1),.bool b2,.slice (some ⟨g2,0,none⟩) l2.length (l2.length+1)]∧g1≠g2∧lo≤g1∧lo≤g2∧TwG w g1 l1∧TwG w g2 l2
theorem TwFK.ext {lo:Nat}{w w':World}{v:Value}{b1 b2:Bool}{l1 l2:List Nat}(h:TwFK lo w v b1 l1 b2 l2)(e:Ext w w'):TwFK lo w' v b1 l1 b2 l2:=by
 obtain ⟨g1,g2,h1,h2,h3,h4,h5,h6⟩:=h;exact ⟨g1,g2,h1,h2,h3,h4,h5.ext e,h6.ext e⟩
theorem TwFK.new {lo:Nat}{w w':World}{v:Value}{b1 b2:Bool}{l1 l2:List Nat}(h:TwFK w.heap.size w' v b1 l1 b2 l2)(hl:lo≤w.heap.size):TwFK lo w' v b1 l1 b2 l2∧∀ g∈Aloof.blks v,w.heap.size≤g∧g<w'.heap.size:=by
 obtain ⟨g1,g2,rfl,h2,h3,h4,h5,h6⟩:=h;refine ⟨⟨g1,g2,rfl,h2,by omega,by omega,h5,h6⟩,fun k hk=>?_⟩;have:g1=k∨g2=k:=by simpa [Aloof.blks,Aloof.blk1,Value.cells] using hk
 rcases this with rfl|rfl
 ·exact ⟨h3,h5.lt⟩
 ·exact ⟨h4,h6.lt⟩
theorem Yc {ss:List Aloof.FSpec}(lo:Nat)(b1:Bool)(l1:List Nat)(b2:Bool)(l2:List Nat)(h:Aloof.StableAll Ext ss):Aloof.StableAll Ext (.fresh (fun W v=>TwFK lo W v b1 l1 b2 l2)::ss):=
 ⟨fun _ _ _ e h=>⟨TwFK.ext h.1 e,fun g hg=>Nat.lt_of_lt_of_le (h.2 g hg) e.size⟩,h⟩
theorem Jk (v:Value)(b1:Bool)(l1:List Nat)(b2:Bool)(l2:List Nat)(w:World)(h:AnyL w v b1 l1 b2 l2) :
  Calls Tryz.prog 23 #[v] w fun e w'=>∃ v',e=.returned v'∧TwFK w.heap.size w' v' b1 l1 b2 l2∧Ext w w':=by
 obtain ⟨a1,c1,a2,c2,rfl,k1,k2,h1,h2⟩:=h;have T1:=mK (fun W (e:Ext w W)=>Sa _ b1 l1 W k1 (h1.ext e));have T2:=mK (fun W (e:Ext w W)=>Sa _ b2 l2 W k2 (h2.ext e));clear h1 h2 k1 k2;obtain ⟨n1,hn1⟩:=nmE l1.length;obtain ⟨n2,hn2⟩:=nmE l2.length;rw [←hn1] at T1 ⊢;rw [←hn2] at T2 ⊢;replace hn1:=mK hn1;replace hn2:=mK hn2;go_enter Tryz.func23,Tryz.ntmps23;go_wp2_with fail;obtain ⟨wb,hwb⟩:=nmE ((w.alloc (.cells #[.bool b1,.slice a1 n1 c1,.bool b2,.slice a2 n2 c2] 54)).alloc (.cells #[.bool false,.slice none 0 0,.bool false,.slice none 0 0] 54));have hE:=mK (aLe2 hwb);obtain ⟨c10,c11,c12,c13⟩:=ceX3 (aL20 hwb);have hB:=mK (aL21 hwb);have hlo:Hid (w.heap.size+2=wb.heap.size):=mK (by rw [hwb];simp);rw [←hwb];clear hwb;have hlo:w.heap.size+2=wb.heap.size:=hlo.out;apply Du [.val _,.val _,.fresh (fun W v=>TwinK (w.heap.size+2) W v b1 l1),.val _,.val _,.fresh (fun W v=>TwinK (w.heap.size+2) W v b2 l2)] (by kernel_rfl) (Av _ (Av _ (Tk _ _ _ (Av _ (Av _ (Tk _ _ _ trivial))))));iterate 2 (refine ⟨fun W hW _=>by go_simp;exact ⟨xR _,rfl⟩,?_⟩)
 refine ⟨fun W hW _=>?g2,fun x2=>?_⟩
 case g2=>
  go_simp;refine (T1.out W (hE.out.trans hW)).mono ?_;rintro e w' ⟨v,rfl,h1,h2⟩;exact ⟨v,rfl,h2,h1.new (by have:=hW.size;omega)⟩
 iterate 2 (refine ⟨fun W hW _=>by go_simp;exact ⟨xR _,rfl⟩,?_⟩)
 refine ⟨fun W hW _=>?g5,fun x5=>fun W hW hF hA=>?fin⟩
 case g5=>
  go_simp;refine (T2.out W (hE.out.trans hW)).mono ?_;rintro e w' ⟨v,rfl,h1,h2⟩;exact ⟨v,rfl,h2,h1.new (by have:=hW.size;omega)⟩
 case fin=>
  have d2:TwinK (w.heap.size+2) W x2 b1 l1:=(hF.2.1 rfl).1;have d5:TwinK (w.heap.size+2) W x5 b2 l2:=(hF.1 rfl).1;have hap:=hA (2,.fresh (fun W v=>TwinK (w.heap.size+2) W v b1 l1),x2) (5,.fresh (fun W v=>TwinK (w.heap.size+2) W v b2 l2),x5) (by simp) (by simp) rfl rfl (by simp);obtain ⟨g1,rfl,p1,p2⟩:=d2;obtain ⟨g2,rfl,p3,p4⟩:=d5
  have hne:g1≠g2:=by
   intro e;subst e;exact hap g1 (by simp [Aloof.blks,Aloof.blk1,Value.cells]) (by simp [Aloof.blks,Aloof.blk1,Value.cells])
  have hBW:=hW.blk hB.out;rw [hn1.out,hn2.out];have FR:=mK (show TwFK w.heap.size (W.setRow (w.heap.size+1) #[.bool b1,.slice (some ⟨g1,0,none⟩) l1.length (l1.length+1),.bool b2,.slice (some ⟨g2,0,none⟩) l2.length (l2.length+1)]) (.agg #[.bool b1,.slice (some ⟨g1,0,none⟩) l1.length (l1.length+1),.bool b2,.slice (some ⟨g2,0,none⟩) l2.length (l2.length+1)]) b1 l1 b2 l2 from ⟨g1,g2,rfl,hne,by omega,by omega,p2.other (by omega) _,p4.other (by omega) _⟩);have FE:=mK ((hE.out.trans hW).row (show w.heap.size≤w.heap.size+1 by omega) #[.bool b1,.slice (some ⟨g1,0,none⟩) l1.length (l1.length+1),.bool b2,.slice (some ⟨g2,0,none⟩) l2.length (l2.length+1)]);clear hF hA hap p2 p4 c10 c11 c12 c13 hW;go_simp;go_wp2_with (refine wpList_store_row rfl 54 (.tmp 2) (.tmp 9) rfl (w.heap.size+1) #[.bool b1,.slice (some ⟨g1,0,none⟩) l1.length (l1.length+1),.bool b2,.slice (some ⟨g2,0,none⟩) l2.length (l2.length+1)] rfl rfl 54 _ hBW (by kernel_rfl) rfl (by kernel_rfl) ?_);exact bodyPost_ret (results_cell_row rfl _ _ (w.heap.size+1) 54 #[.bool b1,.slice (some ⟨g1,0,none⟩) l1.length (l1.length+1),.bool b2,.slice (some ⟨g2,0,none⟩) l2.length (l2.length+1)] (0,0) _ rfl (setRow_heap _ _ _ _ _ _ hBW) Tryz.underlying54 rfl (by kernel_rfl)) rfl ⟨_,rfl,FR.out,FE.out⟩

def TwEK (lo:Nat)(w:World)(v:Value)(kd:Int)(b1:Bool)(l1:List Nat)(b2:Bool)(l2:List Nat)(b3:Bool)(l3:List Nat)(b4:Bool)(l4:List Nat):Prop:=
 ∃ g1 g2 g3 g4,v=.agg #[.int .u8 kd,.bool b1,.slice (some ⟨g1,0,none⟩) l1.length (l1.length+1),.bool b2,.slice (some ⟨g2,0,none⟩) l2.length (l2.length+1),.bool b3,.slice (some ⟨g3,0,none⟩) l3.length (l3.length+1),.bool b4,.slice (some ⟨g4,0,none⟩) l4.length (l4.length+1)]∧(g1≠g2∧g1≠g3∧g1≠g4∧g2≠g3∧g2≠g4∧g3≠g4)∧(lo≤g1∧lo≤g2∧lo≤g3∧lo≤g4)∧TwG w g1 l1∧TwG w g2 l2∧TwG w g3 l3∧TwG w g4 l4
theorem TwEK.ext {lo:Nat}{w w':World}{v:Value}{kd:Int}{b1:Bool}{l1:List Nat}{b2:Bool}{l2:List Nat}{b3:Bool}{l3:List Nat}{b4:Bool}{l4:List Nat}(h:TwEK lo w v kd b1 l1 b2 l2 b3 l3 b4 l4)(e:Ext w w'):TwEK lo w' v kd b1 l1 b2 l2 b3 l3 b4 l4:=by
 obtain ⟨g1,g2,g3,g4,h1,h2,h3,t1,t2,t3,t4⟩:=h;exact ⟨g1,g2,g3,g4,h1,h2,h3,t1.ext e,t2.ext e,t3.ext e,t4.ext e⟩
theorem TwEK.new {lo:Nat}{w w':World}{v:Value}{kd:Int}{b1:Bool}{l1:List Nat}{b2:Bool}{l2:List Nat}{b3:Bool}{l3:List Nat}{b4:Bool}{l4:List Nat}(h:TwEK w.heap.size w' v kd b1 l1 b2 l2 b3 l3 b4 l4)(hl:lo≤w.heap.size):TwEK lo w' v kd b1 l1 b2 l2 b3 l3 b4 l4∧∀ g∈Aloof.blks v,w.heap.size≤g∧g<w'.heap.size:=by
 obtain ⟨g1,g2,g3,g4,rfl,h2,h3,t1,t2,t3,t4⟩:=h;refine ⟨⟨g1,g2,g3,g4,rfl,h2,⟨by omega,by omega,by omega,by omega⟩,t1,t2,t3,t4⟩,fun k hk=>?_⟩;have:g1=k∨g2=k∨g3=k∨g4=k:=by simpa [Aloof.blks,Aloof.blk1,Value.cells] using hk
 rcases this with rfl|rfl|rfl|rfl
 ·exact ⟨h3.1,t1.lt⟩
 ·exact ⟨h3.2.1,t2.lt⟩
 ·exact ⟨h3.2.2.1,t3.lt⟩
 ·exact ⟨h3.2.2.2,t4.lt⟩
theorem Agm {ss:List Aloof.FSpec}(lo:Nat)(kd:Int)(b1:Bool)(l1:List Nat)(b2:Bool)(l2:List Nat)(b3:Bool)(l3:List Nat)(b4:Bool)(l4:List Nat)(h:Aloof.StableAll Ext ss):Aloof.StableAll Ext (.fresh (fun W v=>TwEK lo W v kd b1 l1 b2 l2 b3 l3 b4 l4)::ss):=
 ⟨fun _ _ _ e h=>⟨TwEK.ext h.1 e,fun g hg=>Nat.lt_of_lt_of_le (h.2 g hg) e.size⟩,h⟩
def TwPK (lo:Nat)(w:World)(v:Value)(nm:ByteArray)(kd co:Int)(b1:Bool)(l1:List Nat)(b2:Bool)(l2:List Nat)(b3:Bool)(l3:List Nat)(b4:Bool)(l4:List Nat):Prop:=
 ∃ g1 g2 g3 g4,v=.agg #[.string nm,.int .u8 kd,.bool b1,.slice (some ⟨g1,0,none⟩) l1.length (l1.length+1),.bool b2,.slice (some ⟨g2,0,none⟩) l2.length (l2.length+1),.bool b3,.slice (some ⟨g3,0,none⟩) l3.length (l3.length+1),.bool b4,.slice (some ⟨g4,0,none⟩) l4.length (l4.length+1),.int .i64 co]∧(g1≠g2∧g1≠g3∧g1≠g4∧g2≠g3∧g2≠g4∧g3≠g4)∧(lo≤g1∧lo≤g2∧lo≤g3∧lo≤g4)∧TwG w g1 l1∧TwG w g2 l2∧TwG w g3 l3∧TwG w g4 l4
theorem Rn (kd:Int)(b1:Bool)(l1:List Nat)(a1:Option Addr)(n1 c1:Nat)(b2:Bool)(l2:List Nat)(a2:Option Addr)(n2 c2:Nat)(b3:Bool)(l3:List Nat)(a3:Option Addr)(n3 c3:Nat)(b4:Bool)(l4:List Nat)(a4:Option Addr)(n4 c4:Nat)(w:World)(h1:AnyL w (.agg #[.bool b1,.slice a1 n1 c1,.bool b2,.slice a2 n2 c2]) b1 l1 b2 l2)(h2:AnyL w (.agg #[.bool b3,.slice a3 n3 c3,.bool b4,.slice a4 n4 c4]) b3 l3 b4 l4) :
  Calls Tryz.prog 85 #[.agg #[.int .u8 kd,.bool b1,.slice a1 n1 c1,.bool b2,.slice a2 n2 c2,.bool b3,.slice a3 n3 c3,.bool b4,.slice a4 n4 c4]] w fun e w'=>∃ v',e=.returned v'∧TwEK w.heap.size w' v' kd b1 l1 b2 l2 b3 l3 b4 l4∧Ext w w':=by
 have T1:=mK (fun W (e:Ext w W)=>Jk _ b1 l1 b2 l2 W (h1.ext e));have T2:=mK (fun W (e:Ext w W)=>Jk _ b3 l3 b4 l4 W (h2.ext e));clear h1 h2;go_enter Tryz.func85,Tryz.ntmps85;go_wp2_with fail;obtain ⟨wb,hwb⟩:=nmE ((w.alloc (.cells #[.int .u8 kd,.bool b1,.slice a1 n1 c1,.bool b2,.slice a2 n2 c2,.bool b3,.slice a3 n3 c3,.bool b4,.slice a4 n4 c4] 56)).alloc (.cells #[.int .u8 0,.bool false,.slice none 0 0,.bool false,.slice none 0 0,.bool false,.slice none 0 0,.bool false,.slice none 0 0] 56));have hE:=mK (aLe2 hwb);have z0:=aL20 hwb;have hB:=mK (aL21 hwb);have hlo:Hid (w.heap.size+2=wb.heap.size):=mK (by rw [hwb];simp);obtain ⟨z_0,z_1,z_2,z_3,z_4,z_5,z_6,z_7,z_8⟩:=ceX8 z0;rw [←hwb];clear hwb z0;have hlo:w.heap.size+2=wb.heap.size:=hlo.out;apply Du [.val _,.val _,.val _,.val _,.fresh (fun W v=>TwFK (w.heap.size+2) W v b1 l1 b2 l2),.val _,.val _,.fresh (fun W v=>TwFK (w.heap.size+2) W v b3 l3 b4 l4)] (by kernel_rfl) (Av _ (Av _ (Av _ (Av _ (Yc _ _ _ _ _ (Av _ (Av _ (Yc _ _ _ _ _ trivial))))))));iterate 4 (refine ⟨fun W hW _=>by go_simp;exact ⟨xR _,rfl⟩,?_⟩)
 refine ⟨fun W hW _=>?g2,fun x2=>?_⟩
 case g2=>
  go_simp;refine (T1.out W (hE.out.trans hW)).mono ?_;rintro e w' ⟨v,rfl,h1,h2⟩;exact ⟨v,rfl,h2,h1.new (by have:=hW.size;omega)⟩
 iterate 2 (refine ⟨fun W hW _=>by go_simp;exact ⟨xR _,rfl⟩,?_⟩)
 refine ⟨fun W hW _=>?g5,fun x5=>fun W hW hF hA=>?fin⟩
 case g5=>
  go_simp;refine (T2.out W (hE.out.trans hW)).mono ?_;rintro e w' ⟨v,rfl,h1,h2⟩;exact ⟨v,rfl,h2,h1.new (by have:=hW.size;omega)⟩
 case fin=>
  have d2:TwFK (w.heap.size+2) W x2 b1 l1 b2 l2:=(hF.2.1 rfl).1;have d5:TwFK (w.heap.size+2) W x5 b3 l3 b4 l4:=(hF.1 rfl).1;have hap:=hA (4,.fresh (fun W v=>TwFK (w.heap.size+2) W v b1 l1 b2 l2),x2) (7,.fresh (fun W v=>TwFK (w.heap.size+2) W v b3 l3 b4 l4),x5) (by simp) (by simp) rfl rfl (by simp);obtain ⟨g1,g2,rfl,p1,p2,p3,p4,p5⟩:=d2;obtain ⟨g3,g4,rfl,q1,q2,q3,q4,q5⟩:=d5;have hx:∀ g,(g=g1∨g=g2)→(g=g3∨g=g4)→False:=fun g e1 e2=>hap g (by simp [Aloof.blks,Aloof.blk1,Value.cells];rcases e1 with rfl|rfl<;>simp) (by simp [Aloof.blks,Aloof.blk1,Value.cells];rcases e2 with rfl|rfl<;>simp);have hne:g1≠g2∧g1≠g3∧g1≠g4∧g2≠g3∧g2≠g4∧g3≠g4:=⟨p1,fun e=>hx g1 (.inl rfl) (.inl e),fun e=>hx g1 (.inl rfl) (.inr e),fun e=>hx g2 (.inr rfl) (.inl e),fun e=>hx g2 (.inr rfl) (.inr e),q1⟩
  clear hx;have hBW:=hW.blk hB.out;have FR:=mK (show TwEK w.heap.size (W.setRow (w.heap.size+1) #[.int .u8 kd,.bool b1,.slice (some ⟨g1,0,none⟩) l1.length (l1.length+1),.bool b2,.slice (some ⟨g2,0,none⟩) l2.length (l2.length+1),.bool b3,.slice (some ⟨g3,0,none⟩) l3.length (l3.length+1),.bool b4,.slice (some ⟨g4,0,none⟩) l4.length (l4.length+1)]) (.agg #[.int .u8 kd,.bool b1,.slice (some ⟨g1,0,none⟩) l1.length (l1.length+1),.bool b2,.slice (some ⟨g2,0,none⟩) l2.length (l2.length+1),.bool b3,.slice (some ⟨g3,0,none⟩) l3.length (l3.length+1),.bool b4,.slice (some ⟨g4,0,none⟩) l4.length (l4.length+1)]) kd b1 l1 b2 l2 b3 l3 b4 l4 from ⟨g1,g2,g3,g4,rfl,hne,⟨by omega,by omega,by omega,by omega⟩,p4.other (by omega) _,p5.other (by omega) _,q4.other (by omega) _,q5.other (by omega) _⟩);have FE:=mK ((hE.out.trans hW).row (show w.heap.size≤w.heap.size+1 by omega) #[.int .u8 kd,.bool b1,.slice (some ⟨g1,0,none⟩) l1.length (l1.length+1),.bool b2,.slice (some ⟨g2,0,none⟩) l2.length (l2.length+1),.bool b3,.slice (some ⟨g3,0,none⟩) l3.length (l3.length+1),.bool b4,.slice (some ⟨g4,0,none⟩) l4.length (l4.length+1)]);clear hF hA hap p4 p5 q4 q5 hne hW z_0 z_1 z_2 z_3 z_4 z_5 z_6 z_7 z_8;go_simp;go_wp2_with (refine wpList_store_row rfl 56 (.tmp 2) (.tmp 11) rfl (w.heap.size+1) #[.int .u8 kd,.bool b1,.slice (some ⟨g1,0,none⟩) l1.length (l1.length+1),.bool b2,.slice (some ⟨g2,0,none⟩) l2.length (l2.length+1),.bool b3,.slice (some ⟨g3,0,none⟩) l3.length (l3.length+1),.bool b4,.slice (some ⟨g4,0,none⟩) l4.length (l4.length+1)] rfl rfl 56 _ hBW (by kernel_rfl) rfl (by kernel_rfl) ?_);exact bodyPost_ret (results_cell_row rfl _ _ (w.heap.size+1) 56 #[.int .u8 kd,.bool b1,.slice (some ⟨g1,0,none⟩) l1.length (l1.length+1),.bool b2,.slice (some ⟨g2,0,none⟩) l2.length (l2.length+1),.bool b3,.slice (some ⟨g3,0,none⟩) l3.length (l3.length+1),.bool b4,.slice (some ⟨g4,0,none⟩) l4.length (l4.length+1)] (0,0) _ rfl (setRow_heap _ _ _ _ _ _ hBW) Tryz.underlying56 rfl (by kernel_rfl)) rfl ⟨_,rfl,FR.out,FE.out⟩

theorem Ym (nm:ByteArray)(kd co:Int)(b1:Bool)(l1:List Nat)(a1:Option Addr)(n1 c1:Nat)(b2:Bool)(l2:List Nat)(a2:Option Addr)(n2 c2:Nat)(b3:Bool)(l3:List Nat)(a3:Option Addr)(n3 c3:Nat)(b4:Bool)(l4:List Nat)(a4:Option Addr)(n4 c4:Nat)(w:World)(h1:AnyL w (.agg #[.bool b1,.slice a1 n1 c1,.bool b2,.slice a2 n2 c2]) b1 l1 b2 l2)(h2:AnyL w (.agg #[.bool b3,.slice a3 n3 c3,.bool b4,.slice a4 n4 c4]) b3 l3 b4 l4) :
  Calls Tryz.prog 15 #[.agg #[.string nm,.int .u8 kd,.bool b1,.slice a1 n1 c1,.bool b2,.slice a2 n2 c2,.bool b3,.slice a3 n3 c3,.bool b4,.slice a4 n4 c4,.int .i64 co]] w fun e w'=>∃ v',e=.returned v'∧TwPK w.heap.size w' v' nm kd co b1 l1 b2 l2 b3 l3 b4 l4∧Ext w w':=by
 have T1:=mK (fun W (e:Ext w W)=>Rn kd b1 l1 a1 n1 c1 b2 l2 a2 n2 c2 b3 l3 a3 n3 c3 b4 l4 a4 n4 c4 W (h1.ext e) (h2.ext e));clear h1 h2;go_enter Tryz.func15,Tryz.ntmps15;go_wp2_with fail;obtain ⟨wb,hwb⟩:=nmE ((w.alloc (.cells #[.string nm,.int .u8 kd,.bool b1,.slice a1 n1 c1,.bool b2,.slice a2 n2 c2,.bool b3,.slice a3 n3 c3,.bool b4,.slice a4 n4 c4,.int .i64 co] 58)).alloc (.cells #[.string ⟨#[]⟩,.int .u8 0,.bool false,.slice none 0 0,.bool false,.slice none 0 0,.bool false,.slice none 0 0,.bool false,.slice none 0 0,.int .i64 0] 58));have hE:=mK (aLe2 hwb);have z0:=aL20 hwb;have hB:=mK (aL21 hwb);have hlo:Hid (w.heap.size+2=wb.heap.size):=mK (by rw [hwb];simp);obtain ⟨z_0,z_1,z_2,z_3,z_4,z_5,z_6,z_7,z_8,z_9,z_10⟩:=Ait z0;rw [←hwb];clear hwb z0;have hlo:w.heap.size+2=wb.heap.size:=hlo.out;apply Du [.val _,.val _,.val _,.val _,.fresh (fun W v=>TwEK (w.heap.size+2) W v kd b1 l1 b2 l2 b3 l3 b4 l4),.val _,.val _] (by kernel_rfl) (Av _ (Av _ (Av _ (Av _ (Agm _ _ _ _ _ _ _ _ _ _ (Av _ (Av _ trivial)))))));iterate 4 (refine ⟨fun W hW _=>by go_simp;exact ⟨xR _,rfl⟩,?_⟩)
 refine ⟨fun W hW _=>?g2,fun x2=>?_⟩
 case g2=>
  go_simp;refine (T1.out W (hE.out.trans hW)).mono ?_;rintro e w' ⟨v,rfl,h1,h2⟩;exact ⟨v,rfl,h2,h1.new (by have:=hW.size;omega)⟩
 iterate 2 (refine ⟨fun W hW _=>by go_simp;exact ⟨xR _,rfl⟩,?_⟩)
 intro W hW hF hA;have d2:TwEK (w.heap.size+2) W x2 kd b1 l1 b2 l2 b3 l3 b4 l4:=(hF.1 rfl).1;obtain ⟨g1,g2,g3,g4,rfl,p1,p2,p3,p4,p5,p6⟩:=d2;have hBW:=hW.blk hB.out;have FR:=mK (show TwPK w.heap.size (W.setRow (w.heap.size+1) #[.string nm,.int .u8 kd,.bool b1,.slice (some ⟨g1,0,none⟩) l1.length (l1.length+1),.bool b2,.slice (some ⟨g2,0,none⟩) l2.length (l2.length+1),.bool b3,.slice (some ⟨g3,0,none⟩) l3.length (l3.length+1),.bool b4,.slice (some ⟨g4,0,none⟩) l4.length (l4.length+1),.int .i64 co]) (.agg #[.string nm,.int .u8 kd,.bool b1,.slice (some ⟨g1,0,none⟩) l1.length (l1.length+1),.bool b2,.slice (some ⟨g2,0,none⟩) l2.length (l2.length+1),.bool b3,.slice (some ⟨g3,0,none⟩) l3.length (l3.length+1),.bool b4,.slice (some ⟨g4,0,none⟩) l4.length (l4.length+1),.int .i64 co]) nm kd co b1 l1 b2 l2 b3 l3 b4 l4 from ⟨g1,g2,g3,g4,rfl,p1,⟨by omega,by omega,by omega,by omega⟩,p3.other (by omega) _,p4.other (by omega) _,p5.other (by omega) _,p6.other (by omega) _⟩);have FE:=mK ((hE.out.trans hW).row (show w.heap.size≤w.heap.size+1 by omega) #[.string nm,.int .u8 kd,.bool b1,.slice (some ⟨g1,0,none⟩) l1.length (l1.length+1),.bool b2,.slice (some ⟨g2,0,none⟩) l2.length (l2.length+1),.bool b3,.slice (some ⟨g3,0,none⟩) l3.length (l3.length+1),.bool b4,.slice (some ⟨g4,0,none⟩) l4.length (l4.length+1),.int .i64 co]);clear hF hA p1 p3 p4 p5 p6 hW z_0 z_1 z_2 z_3 z_4 z_5 z_6 z_7 z_8 z_9 z_10;go_simp;go_wp2_with (refine wpList_store_row rfl 58 (.tmp 2) (.tmp 10) rfl (w.heap.size+1) #[.string nm,.int .u8 kd,.bool b1,.slice (some ⟨g1,0,none⟩) l1.length (l1.length+1),.bool b2,.slice (some ⟨g2,0,none⟩) l2.length (l2.length+1),.bool b3,.slice (some ⟨g3,0,none⟩) l3.length (l3.length+1),.bool b4,.slice (some ⟨g4,0,none⟩) l4.length (l4.length+1),.int .i64 co] rfl rfl 58 _ hBW (by kernel_rfl) rfl (by kernel_rfl) ?_);exact bodyPost_ret (results_cell_row rfl _ _ (w.heap.size+1) 58 #[.string nm,.int .u8 kd,.bool b1,.slice (some ⟨g1,0,none⟩) l1.length (l1.length+1),.bool b2,.slice (some ⟨g2,0,none⟩) l2.length (l2.length+1),.bool b3,.slice (some ⟨g3,0,none⟩) l3.length (l3.length+1),.bool b4,.slice (some ⟨g4,0,none⟩) l4.length (l4.length+1),.int .i64 co] (0,0) _ rfl (setRow_heap _ _ _ _ _ _ hBW) Tryz.underlying58 rfl (by kernel_rfl)) rfl ⟨_,rfl,FR.out,FE.out⟩

theorem Rv (kd:Int)(b1:Bool)(l1:List Nat)(a1 a1':Option Addr)(n1 c1 c1':Nat)(b2:Bool)(l2:List Nat)(a2 a2':Option Addr)(n2 c2 c2':Nat)(b3:Bool)(l3:List Nat)(a3 a3':Option Addr)(n3 c3 c3':Nat)(b4:Bool)(l4:List Nat)(a4 a4':Option Addr)(n4 c4 c4':Nat)(w:World)(k1:l1.length≤4294967296)(k2:l2.length≤4294967296)(k3:l3.length≤4294967296)(k4:l4.length≤4294967296)(t1:TwF w (.agg #[.bool b1,.slice a1' n1 c1',.bool b2,.slice a2' n2 c2']) b1 l1 b2 l2)(t2:TwF w (.agg #[.bool b3,.slice a3' n3 c3',.bool b4,.slice a4' n4 c4']) b3 l3 b4 l4)(u1:AnyL w (.agg #[.bool b1,.slice a1 n1 c1,.bool b2,.slice a2 n2 c2]) b1 l1 b2 l2)(u2:AnyL w (.agg #[.bool b3,.slice a3 n3 c3,.bool b4,.slice a4 n4 c4]) b3 l3 b4 l4) :
  Calls Tryz.prog 92 #[.agg #[.int .u8 kd,.bool b1,.slice a1' n1 c1',.bool b2,.slice a2' n2 c2',.bool b3,.slice a3' n3 c3',.bool b4,.slice a4' n4 c4'],.agg #[.int .u8 kd,.bool b1,.slice a1 n1 c1,.bool b2,.slice a2 n2 c2,.bool b3,.slice a3 n3 c3,.bool b4,.slice a4 n4 c4]] w fun e w'=>e=.returned (.bool true)∧Ext w w':=by
 have K0:=mK (fun W (e:Ext w W)=>Jw _ _ b1 l1 b2 l2 W k1 k2 (t1.ext e) (u1.ext e));have K1:=mK (fun W (e:Ext w W)=>Jw _ _ b3 l3 b4 l4 W k3 k4 (t2.ext e) (u2.ext e));clear t1 t2 u1 u2 k1 k2 k3 k4;obtain ⟨wb,hwb⟩:=nmE ((w.alloc (.cells #[.int .u8 kd,.bool b1,.slice a1' n1 c1',.bool b2,.slice a2' n2 c2',.bool b3,.slice a3' n3 c3',.bool b4,.slice a4' n4 c4'] 56)).alloc (.cells #[.int .u8 kd,.bool b1,.slice a1 n1 c1,.bool b2,.slice a2 n2 c2,.bool b3,.slice a3 n3 c3,.bool b4,.slice a4 n4 c4] 56));have hE:=mK (aLe2 hwb);have z0:=mK (aL20 hwb);have z1:=mK (aL21 hwb);replace hwb:=mK hwb;go_enter Tryz.func92,Tryz.ntmps92;go_wp2_with fail;rw [←hwb.out];clear hwb;refine (K0.out _ hE.out).mono ?_;rintro e w1 ⟨rfl,hE1⟩;replace z0:=mK (hE1.blk z0.out);replace z1:=mK (hE1.blk z1.out);replace hE:=mK (hE.out.trans hE1);clear hE1;have y5:w1.cell? ⟨w.heap.size,5,none⟩=some (.bool b3):=Aa z0.out 5;have x5:w1.cell? ⟨w.heap.size+1,5,none⟩=some (.bool b3):=Aa z1.out 5;have y6:w1.cell? ⟨w.heap.size,6,none⟩=some (.slice a3' n3 c3'):=Aa z0.out 6;have x6:w1.cell? ⟨w.heap.size+1,6,none⟩=some (.slice a3 n3 c3):=Aa z1.out 6;have y7:w1.cell? ⟨w.heap.size,7,none⟩=some (.bool b4):=Aa z0.out 7;have x7:w1.cell? ⟨w.heap.size+1,7,none⟩=some (.bool b4):=Aa z1.out 7;have y8:w1.cell? ⟨w.heap.size,8,none⟩=some (.slice a4' n4 c4'):=Aa z0.out 8;have x8:w1.cell? ⟨w.heap.size+1,8,none⟩=some (.slice a4 n4 c4):=Aa z1.out 8;go_wp2_with fail;clear x5 y5 x6 y6 x7 y7 x8 y8;refine (K1.out _ hE.out).mono ?_;rintro e w2 ⟨rfl,hE2⟩;replace z0:=mK (hE2.blk z0.out);replace z1:=mK (hE2.blk z1.out);replace hE:=mK (hE.out.trans hE2);clear hE2;go_wp2_with fail;go_ret;exact ⟨rfl,hE.out⟩

theorem Zs (nm:ByteArray)(kd co:Int)(b1:Bool)(l1:List Nat)(a1 a1':Option Addr)(n1 c1 c1':Nat)(b2:Bool)(l2:List Nat)(a2 a2':Option Addr)(n2 c2 c2':Nat)(b3:Bool)(l3:List Nat)(a3 a3':Option Addr)(n3 c3 c3':Nat)(b4:Bool)(l4:List Nat)(a4 a4':Option Addr)(n4 c4 c4':Nat)(w:World)(k1:l1.length≤4294967296)(k2:l2.length≤4294967296)(k3:l3.length≤4294967296)(k4:l4.length≤4294967296)(t1:TwF w (.agg #[.bool b1,.slice a1' n1 c1',.bool b2,.slice a2' n2 c2']) b1 l1 b2 l2)(t2:TwF w (.agg #[.bool b3,.slice a3' n3 c3',.bool b4,.slice a4' n4 c4']) b3 l3 b4 l4)(u1:AnyL w (.agg #[.bool b1,.slice a1 n1 c1,.bool b2,.slice a2 n2 c2]) b1 l1 b2 l2)(u2:AnyL w (.agg #[.bool b3,.slice a3 n3 c3,.bool b4,.slice a4 n4 c4]) b3 l3 b4 l4) :
  Calls Tryz.prog 18 #[.agg #[.string nm,.int .u8 kd,.bool b1,.slice a1' n1 c1',.bool b2,.slice a2' n2 c2',.bool b3,.slice a3' n3 c3',.bool b4,.slice a4' n4 c4',.int .i64 co],.agg #[.string nm,.int .u8 kd,.bool b1,.slice a1 n1 c1,.bool b2,.slice a2 n2 c2,.bool b3,.slice a3 n3 c3,.bool b4,.slice a4 n4 c4,.int .i64 co]] w fun e w'=>e=.returned (.bool true)∧Ext w w':=by
 have K0:=mK (fun W (e:Ext w W)=>Rv kd b1 l1 a1 a1' n1 c1 c1' b2 l2 a2 a2' n2 c2 c2' b3 l3 a3 a3' n3 c3 c3' b4 l4 a4 a4' n4 c4 c4' W k1 k2 k3 k4 (t1.ext e) (t2.ext e) (u1.ext e) (u2.ext e));clear t1 t2 u1 u2 k1 k2 k3 k4;obtain ⟨wb,hwb⟩:=nmE ((w.alloc (.cells #[.string nm,.int .u8 kd,.bool b1,.slice a1' n1 c1',.bool b2,.slice a2' n2 c2',.bool b3,.slice a3' n3 c3',.bool b4,.slice a4' n4 c4',.int .i64 co] 58)).alloc (.cells #[.string nm,.int .u8 kd,.bool b1,.slice a1 n1 c1,.bool b2,.slice a2 n2 c2,.bool b3,.slice a3 n3 c3,.bool b4,.slice a4 n4 c4,.int .i64 co] 58));have hE:=mK (aLe2 hwb);have z0:=mK (aL20 hwb);have z1:=mK (aL21 hwb);replace hwb:=mK hwb;go_enter Tryz.func18,Tryz.ntmps18;go_wp2_with fail;rw [←hwb.out];clear hwb;refine (K0.out _ hE.out).mono ?_;rintro e w1 ⟨rfl,hE1⟩;replace z0:=mK (hE1.blk z0.out);replace z1:=mK (hE1.blk z1.out);replace hE:=mK (hE.out.trans hE1);clear hE1;have y10:w1.cell? ⟨w.heap.size,10,none⟩=some (.int .i64 co):=Aa z0.out 10;have x10:w1.cell? ⟨w.heap.size+1,10,none⟩=some (.int .i64 co):=Aa z1.out 10;go_wp2_with fail;clear x10 y10;go_ret;exact ⟨rfl,hE.out⟩

def LvE (j f:Nat)(r:Ending):Prop:=∀ (bk:Nat) (w:World),w.cell? ⟨bk,j,none⟩=some (.slice none 0 0)→Calls Tryz.prog f #[.pointer (some ⟨bk,0,none⟩)] w fun e w'=>e=r∧w=w'
theorem Aah:LvE 1 35 (.returned (.tuple #[])):=by
 intro bk w h;go_enter Tryz.func35,Tryz.ntmps35;go_wp2_with fail;go_loopw [2] (fun i wr=>i=.int .i64 0∧wr=w) (fun _ _=>0)
 case atStart=>simp
 case round=>
  obtain ⟨rfl,rfl⟩:=hrel;go_wp2_with fail;go_end0;exact ⟨rfl,rfl⟩
theorem Aab:LvE 1 51 (.returned (.tuple #[])):=by
 intro bk w h;go_enter Tryz.func51,Tryz.ntmps51;go_wp2_with fail;go_loopw [2] (fun i wr=>i=.int .i64 0∧wr=w) (fun _ _=>0)
 case atStart=>simp
 case round=>
  obtain ⟨rfl,rfl⟩:=hrel;go_wp2_with fail;go_end0;exact ⟨rfl,rfl⟩
theorem Zn:LvE 1 67 (.returned (.bool true)):=by
 intro bk w h;go_enter Tryz.func67,Tryz.ntmps67;go_wp2_with fail;go_loopw [3] (fun i wr=>i=.int .i64 0∧wr=w) (fun _ _=>0)
 case atStart=>simp
 case round=>
  obtain ⟨rfl,rfl⟩:=hrel;go_wp2_with fail;go_ret;exact ⟨rfl,rfl⟩
theorem Hq:LvE 2 36 (.returned (.tuple #[])):=by
 intro bk w h;go_enter Tryz.func36,Tryz.ntmps36;go_wp2_with fail;go_loopw [2] (fun i wr=>i=.int .i64 0∧wr=w) (fun _ _=>0)
 case atStart=>simp
 case round=>
  obtain ⟨rfl,rfl⟩:=hrel;go_wp2_with fail;go_end0;exact ⟨rfl,rfl⟩
theorem Hm:LvE 2 52 (.returned (.tuple #[])):=by
 intro bk w h;go_enter Tryz.func52,Tryz.ntmps52;go_wp2_with fail;go_loopw [2] (fun i wr=>i=.int .i64 0∧wr=w) (fun _ _=>0)
 case atStart=>simp
 case round=>
  obtain ⟨rfl,rfl⟩:=hrel;go_wp2_with fail;go_end0;exact ⟨rfl,rfl⟩
theorem Hl:LvE 2 68 (.returned (.bool true)):=by
 intro bk w h;go_enter Tryz.func68,Tryz.ntmps68;go_wp2_with fail;go_loopw [3] (fun i wr=>i=.int .i64 0∧wr=w) (fun _ _=>0)
 case atStart=>simp
 case round=>
  obtain ⟨rfl,rfl⟩:=hrel;go_wp2_with fail;go_ret;exact ⟨rfl,rfl⟩
theorem If:LvE 3 37 (.returned (.tuple #[])):=by
 intro bk w h;go_enter Tryz.func37,Tryz.ntmps37;go_wp2_with fail;go_loopw [2] (fun i wr=>i=.int .i64 0∧wr=w) (fun _ _=>0)
 case atStart=>simp
 case round=>
  obtain ⟨rfl,rfl⟩:=hrel;go_wp2_with fail;go_end0;exact ⟨rfl,rfl⟩
theorem Ic:LvE 3 53 (.returned (.tuple #[])):=by
 intro bk w h;go_enter Tryz.func53,Tryz.ntmps53;go_wp2_with fail;go_loopw [2] (fun i wr=>i=.int .i64 0∧wr=w) (fun _ _=>0)
 case atStart=>simp
 case round=>
  obtain ⟨rfl,rfl⟩:=hrel;go_wp2_with fail;go_end0;exact ⟨rfl,rfl⟩
theorem Hz:LvE 3 69 (.returned (.bool true)):=by
 intro bk w h;go_enter Tryz.func69,Tryz.ntmps69;go_wp2_with fail;go_loopw [3] (fun i wr=>i=.int .i64 0∧wr=w) (fun _ _=>0)
 case atStart=>simp
 case round=>
  obtain ⟨rfl,rfl⟩:=hrel;go_wp2_with fail;go_ret;exact ⟨rfl,rfl⟩
theorem Gq:LvE 4 38 (.returned (.tuple #[])):=by
 intro bk w h;go_enter Tryz.func38,Tryz.ntmps38;go_wp2_with fail;go_loopw [2] (fun i wr=>i=.int .i64 0∧wr=w) (fun _ _=>0)
 case atStart=>simp
 case round=>
  obtain ⟨rfl,rfl⟩:=hrel;go_wp2_with fail;go_end0;exact ⟨rfl,rfl⟩
theorem Gm:LvE 4 54 (.returned (.tuple #[])):=by
 intro bk w h;go_enter Tryz.func54,Tryz.ntmps54;go_wp2_with fail;go_loopw [2] (fun i wr=>i=.int .i64 0∧wr=w) (fun _ _=>0)
 case atStart=>simp
 case round=>
  obtain ⟨rfl,rfl⟩:=hrel;go_wp2_with fail;go_end0;exact ⟨rfl,rfl⟩
theorem Gk:LvE 4 70 (.returned (.bool true)):=by
 intro bk w h;go_enter Tryz.func70,Tryz.ntmps70;go_wp2_with fail;go_loopw [3] (fun i wr=>i=.int .i64 0∧wr=w) (fun _ _=>0)
 case atStart=>simp
 case round=>
  obtain ⟨rfl,rfl⟩:=hrel;go_wp2_with fail;go_ret;exact ⟨rfl,rfl⟩
theorem Kg:LvE 5 39 (.returned (.tuple #[])):=by
 intro bk w h;go_enter Tryz.func39,Tryz.ntmps39;go_wp2_with fail;go_loopw [2] (fun i wr=>i=.int .i64 0∧wr=w) (fun _ _=>0)
 case atStart=>simp
 case round=>
  obtain ⟨rfl,rfl⟩:=hrel;go_wp2_with fail;go_end0;exact ⟨rfl,rfl⟩
theorem Jx:LvE 5 55 (.returned (.tuple #[])):=by
 intro bk w h;go_enter Tryz.func55,Tryz.ntmps55;go_wp2_with fail;go_loopw [2] (fun i wr=>i=.int .i64 0∧wr=w) (fun _ _=>0)
 case atStart=>simp
 case round=>
  obtain ⟨rfl,rfl⟩:=hrel;go_wp2_with fail;go_end0;exact ⟨rfl,rfl⟩
theorem Jr:LvE 5 71 (.returned (.bool true)):=by
 intro bk w h;go_enter Tryz.func71,Tryz.ntmps71;go_wp2_with fail;go_loopw [3] (fun i wr=>i=.int .i64 0∧wr=w) (fun _ _=>0)
 case atStart=>simp
 case round=>
  obtain ⟨rfl,rfl⟩:=hrel;go_wp2_with fail;go_ret;exact ⟨rfl,rfl⟩
theorem Ki:LvE 6 40 (.returned (.tuple #[])):=by
 intro bk w h;go_enter Tryz.func40,Tryz.ntmps40;go_wp2_with fail;go_loopw [2] (fun i wr=>i=.int .i64 0∧wr=w) (fun _ _=>0)
 case atStart=>simp
 case round=>
  obtain ⟨rfl,rfl⟩:=hrel;go_wp2_with fail;go_end0;exact ⟨rfl,rfl⟩
theorem Jz:LvE 6 56 (.returned (.tuple #[])):=by
 intro bk w h;go_enter Tryz.func56,Tryz.ntmps56;go_wp2_with fail;go_loopw [2] (fun i wr=>i=.int .i64 0∧wr=w) (fun _ _=>0)
 case atStart=>simp
 case round=>
  obtain ⟨rfl,rfl⟩:=hrel;go_wp2_with fail;go_end0;exact ⟨rfl,rfl⟩
theorem Jt:LvE 6 72 (.returned (.bool true)):=by
 intro bk w h;go_enter Tryz.func72,Tryz.ntmps72;go_wp2_with fail;go_loopw [3] (fun i wr=>i=.int .i64 0∧wr=w) (fun _ _=>0)
 case atStart=>simp
 case round=>
  obtain ⟨rfl,rfl⟩:=hrel;go_wp2_with fail;go_ret;exact ⟨rfl,rfl⟩
theorem Ie:LvE 7 41 (.returned (.tuple #[])):=by
 intro bk w h;go_enter Tryz.func41,Tryz.ntmps41;go_wp2_with fail;go_loopw [2] (fun i wr=>i=.int .i64 0∧wr=w) (fun _ _=>0)
 case atStart=>simp
 case round=>
  obtain ⟨rfl,rfl⟩:=hrel;go_wp2_with fail;go_end0;exact ⟨rfl,rfl⟩
theorem Ib:LvE 7 57 (.returned (.tuple #[])):=by
 intro bk w h;go_enter Tryz.func57,Tryz.ntmps57;go_wp2_with fail;go_loopw [2] (fun i wr=>i=.int .i64 0∧wr=w) (fun _ _=>0)
 case atStart=>simp
 case round=>
  obtain ⟨rfl,rfl⟩:=hrel;go_wp2_with fail;go_end0;exact ⟨rfl,rfl⟩
theorem Hy:LvE 7 73 (.returned (.bool true)):=by
 intro bk w h;go_enter Tryz.func73,Tryz.ntmps73;go_wp2_with fail;go_loopw [3] (fun i wr=>i=.int .i64 0∧wr=w) (fun _ _=>0)
 case atStart=>simp
 case round=>
  obtain ⟨rfl,rfl⟩:=hrel;go_wp2_with fail;go_ret;exact ⟨rfl,rfl⟩
theorem Mx:LvE 8 42 (.returned (.tuple #[])):=by
 intro bk w h;go_enter Tryz.func42,Tryz.ntmps42;go_wp2_with fail;go_loopw [2] (fun i wr=>i=.int .i64 0∧wr=w) (fun _ _=>0)
 case atStart=>simp
 case round=>
  obtain ⟨rfl,rfl⟩:=hrel;go_wp2_with fail;go_end0;exact ⟨rfl,rfl⟩
theorem Mt:LvE 8 58 (.returned (.tuple #[])):=by
 intro bk w h;go_enter Tryz.func58,Tryz.ntmps58;go_wp2_with fail;go_loopw [2] (fun i wr=>i=.int .i64 0∧wr=w) (fun _ _=>0)
 case atStart=>simp
 case round=>
  obtain ⟨rfl,rfl⟩:=hrel;go_wp2_with fail;go_end0;exact ⟨rfl,rfl⟩
theorem Mn:LvE 8 74 (.returned (.bool true)):=by
 intro bk w h;go_enter Tryz.func74,Tryz.ntmps74;go_wp2_with fail;go_loopw [3] (fun i wr=>i=.int .i64 0∧wr=w) (fun _ _=>0)
 case atStart=>simp
 case round=>
  obtain ⟨rfl,rfl⟩:=hrel;go_wp2_with fail;go_ret;exact ⟨rfl,rfl⟩
theorem Gp:LvE 9 43 (.returned (.tuple #[])):=by
 intro bk w h;go_enter Tryz.func43,Tryz.ntmps43;go_wp2_with fail;go_loopw [2] (fun i wr=>i=.int .i64 0∧wr=w) (fun _ _=>0)
 case atStart=>simp
 case round=>
  obtain ⟨rfl,rfl⟩:=hrel;go_wp2_with fail;go_end0;exact ⟨rfl,rfl⟩
theorem Gl:LvE 9 59 (.returned (.tuple #[])):=by
 intro bk w h;go_enter Tryz.func59,Tryz.ntmps59;go_wp2_with fail;go_loopw [2] (fun i wr=>i=.int .i64 0∧wr=w) (fun _ _=>0)
 case atStart=>simp
 case round=>
  obtain ⟨rfl,rfl⟩:=hrel;go_wp2_with fail;go_end0;exact ⟨rfl,rfl⟩
theorem Gj:LvE 9 75 (.returned (.bool true)):=by
 intro bk w h;go_enter Tryz.func75,Tryz.ntmps75;go_wp2_with fail;go_loopw [3] (fun i wr=>i=.int .i64 0∧wr=w) (fun _ _=>0)
 case atStart=>simp
 case round=>
  obtain ⟨rfl,rfl⟩:=hrel;go_wp2_with fail;go_ret;exact ⟨rfl,rfl⟩
theorem Kk:LvE 10 44 (.returned (.tuple #[])):=by
 intro bk w h;go_enter Tryz.func44,Tryz.ntmps44;go_wp2_with fail;go_loopw [2] (fun i wr=>i=.int .i64 0∧wr=w) (fun _ _=>0)
 case atStart=>simp
 case round=>
  obtain ⟨rfl,rfl⟩:=hrel;go_wp2_with fail;go_end0;exact ⟨rfl,rfl⟩
theorem Kb:LvE 10 60 (.returned (.tuple #[])):=by
 intro bk w h;go_enter Tryz.func60,Tryz.ntmps60;go_wp2_with fail;go_loopw [2] (fun i wr=>i=.int .i64 0∧wr=w) (fun _ _=>0)
 case atStart=>simp
 case round=>
  obtain ⟨rfl,rfl⟩:=hrel;go_wp2_with fail;go_end0;exact ⟨rfl,rfl⟩
theorem Jv:LvE 10 76 (.returned (.bool true)):=by
 intro bk w h;go_enter Tryz.func76,Tryz.ntmps76;go_wp2_with fail;go_loopw [3] (fun i wr=>i=.int .i64 0∧wr=w) (fun _ _=>0)
 case atStart=>simp
 case round=>
  obtain ⟨rfl,rfl⟩:=hrel;go_wp2_with fail;go_ret;exact ⟨rfl,rfl⟩
theorem Kj:LvE 11 45 (.returned (.tuple #[])):=by
 intro bk w h;go_enter Tryz.func45,Tryz.ntmps45;go_wp2_with fail;go_loopw [2] (fun i wr=>i=.int .i64 0∧wr=w) (fun _ _=>0)
 case atStart=>simp
 case round=>
  obtain ⟨rfl,rfl⟩:=hrel;go_wp2_with fail;go_end0;exact ⟨rfl,rfl⟩
theorem Ka:LvE 11 61 (.returned (.tuple #[])):=by
 intro bk w h;go_enter Tryz.func61,Tryz.ntmps61;go_wp2_with fail;go_loopw [2] (fun i wr=>i=.int .i64 0∧wr=w) (fun _ _=>0)
 case atStart=>simp
 case round=>
  obtain ⟨rfl,rfl⟩:=hrel;go_wp2_with fail;go_end0;exact ⟨rfl,rfl⟩
theorem Ju:LvE 11 77 (.returned (.bool true)):=by
 intro bk w h;go_enter Tryz.func77,Tryz.ntmps77;go_wp2_with fail;go_loopw [3] (fun i wr=>i=.int .i64 0∧wr=w) (fun _ _=>0)
 case atStart=>simp
 case round=>
  obtain ⟨rfl,rfl⟩:=hrel;go_wp2_with fail;go_ret;exact ⟨rfl,rfl⟩
theorem Qt:LvE 12 46 (.returned (.tuple #[])):=by
 intro bk w h;go_enter Tryz.func46,Tryz.ntmps46;go_wp2_with fail;go_loopw [2] (fun i wr=>i=.int .i64 0∧wr=w) (fun _ _=>0)
 case atStart=>simp
 case round=>
  obtain ⟨rfl,rfl⟩:=hrel;go_wp2_with fail;go_end0;exact ⟨rfl,rfl⟩
theorem Qo:LvE 12 62 (.returned (.tuple #[])):=by
 intro bk w h;go_enter Tryz.func62,Tryz.ntmps62;go_wp2_with fail;go_loopw [2] (fun i wr=>i=.int .i64 0∧wr=w) (fun _ _=>0)
 case atStart=>simp
 case round=>
  obtain ⟨rfl,rfl⟩:=hrel;go_wp2_with fail;go_end0;exact ⟨rfl,rfl⟩
theorem Qd:LvE 12 78 (.returned (.bool true)):=by
 intro bk w h;go_enter Tryz.func78,Tryz.ntmps78;go_wp2_with fail;go_loopw [3] (fun i wr=>i=.int .i64 0∧wr=w) (fun _ _=>0)
 case atStart=>simp
 case round=>
  obtain ⟨rfl,rfl⟩:=hrel;go_wp2_with fail;go_ret;exact ⟨rfl,rfl⟩
theorem My:LvE 13 47 (.returned (.tuple #[])):=by
 intro bk w h;go_enter Tryz.func47,Tryz.ntmps47;go_wp2_with fail;go_loopw [2] (fun i wr=>i=.int .i64 0∧wr=w) (fun _ _=>0)
 case atStart=>simp
 case round=>
  obtain ⟨rfl,rfl⟩:=hrel;go_wp2_with fail;go_end0;exact ⟨rfl,rfl⟩
theorem Mu:LvE 13 63 (.returned (.tuple #[])):=by
 intro bk w h;go_enter Tryz.func63,Tryz.ntmps63;go_wp2_with fail;go_loopw [2] (fun i wr=>i=.int .i64 0∧wr=w) (fun _ _=>0)
 case atStart=>simp
 case round=>
  obtain ⟨rfl,rfl⟩:=hrel;go_wp2_with fail;go_end0;exact ⟨rfl,rfl⟩
theorem Mo:LvE 13 79 (.returned (.bool true)):=by
 intro bk w h;go_enter Tryz.func79,Tryz.ntmps79;go_wp2_with fail;go_loopw [3] (fun i wr=>i=.int .i64 0∧wr=w) (fun _ _=>0)
 case atStart=>simp
 case round=>
  obtain ⟨rfl,rfl⟩:=hrel;go_wp2_with fail;go_ret;exact ⟨rfl,rfl⟩
theorem Kh:LvE 14 48 (.returned (.tuple #[])):=by
 intro bk w h;go_enter Tryz.func48,Tryz.ntmps48;go_wp2_with fail;go_loopw [2] (fun i wr=>i=.int .i64 0∧wr=w) (fun _ _=>0)
 case atStart=>simp
 case round=>
  obtain ⟨rfl,rfl⟩:=hrel;go_wp2_with fail;go_end0;exact ⟨rfl,rfl⟩
theorem Jy:LvE 14 64 (.returned (.tuple #[])):=by
 intro bk w h;go_enter Tryz.func64,Tryz.ntmps64;go_wp2_with fail;go_loopw [2] (fun i wr=>i=.int .i64 0∧wr=w) (fun _ _=>0)
 case atStart=>simp
 case round=>
  obtain ⟨rfl,rfl⟩:=hrel;go_wp2_with fail;go_end0;exact ⟨rfl,rfl⟩
theorem Js:LvE 14 80 (.returned (.bool true)):=by
 intro bk w h;go_enter Tryz.func80,Tryz.ntmps80;go_wp2_with fail;go_loopw [3] (fun i wr=>i=.int .i64 0∧wr=w) (fun _ _=>0)
 case atStart=>simp
 case round=>
  obtain ⟨rfl,rfl⟩:=hrel;go_wp2_with fail;go_ret;exact ⟨rfl,rfl⟩
theorem Mz:LvE 15 49 (.returned (.tuple #[])):=by
 intro bk w h;go_enter Tryz.func49,Tryz.ntmps49;go_wp2_with fail;go_loopw [2] (fun i wr=>i=.int .i64 0∧wr=w) (fun _ _=>0)
 case atStart=>simp
 case round=>
  obtain ⟨rfl,rfl⟩:=hrel;go_wp2_with fail;go_end0;exact ⟨rfl,rfl⟩
theorem Mv:LvE 15 65 (.returned (.tuple #[])):=by
 intro bk w h;go_enter Tryz.func65,Tryz.ntmps65;go_wp2_with fail;go_loopw [2] (fun i wr=>i=.int .i64 0∧wr=w) (fun _ _=>0)
 case atStart=>simp
 case round=>
  obtain ⟨rfl,rfl⟩:=hrel;go_wp2_with fail;go_end0;exact ⟨rfl,rfl⟩
theorem Mp:LvE 15 81 (.returned (.bool true)):=by
 intro bk w h;go_enter Tryz.func81,Tryz.ntmps81;go_wp2_with fail;go_loopw [3] (fun i wr=>i=.int .i64 0∧wr=w) (fun _ _=>0)
 case atStart=>simp
 case round=>
  obtain ⟨rfl,rfl⟩:=hrel;go_wp2_with fail;go_ret;exact ⟨rfl,rfl⟩
theorem Id:LvE 16 50 (.returned (.tuple #[])):=by
 intro bk w h;go_enter Tryz.func50,Tryz.ntmps50;go_wp2_with fail;go_loopw [2] (fun i wr=>i=.int .i64 0∧wr=w) (fun _ _=>0)
 case atStart=>simp
 case round=>
  obtain ⟨rfl,rfl⟩:=hrel;go_wp2_with fail;go_end0;exact ⟨rfl,rfl⟩
theorem Ia:LvE 16 66 (.returned (.tuple #[])):=by
 intro bk w h;go_enter Tryz.func66,Tryz.ntmps66;go_wp2_with fail;go_loopw [2] (fun i wr=>i=.int .i64 0∧wr=w) (fun _ _=>0)
 case atStart=>simp
 case round=>
  obtain ⟨rfl,rfl⟩:=hrel;go_wp2_with fail;go_end0;exact ⟨rfl,rfl⟩
theorem Hx:LvE 16 82 (.returned (.bool true)):=by
 intro bk w h;go_enter Tryz.func82,Tryz.ntmps82;go_wp2_with fail;go_loopw [3] (fun i wr=>i=.int .i64 0∧wr=w) (fun _ _=>0)
 case atStart=>simp
 case round=>
  obtain ⟨rfl,rfl⟩:=hrel;go_wp2_with fail;go_ret;exact ⟨rfl,rfl⟩
structure Ent where
 l:Value
 n:Nat
 len:Nat

structure Chg (w w':World) (S:Nat→Prop):Prop where
 os:w'.os=w.os
 tape:w'.tape=w.tape
 output:w'.output=w.output
 size:w.heap.size≤w'.heap.size
 block:∀ k,k<w.heap.size→¬S k→w'.heap[k]? = w.heap[k]?
theorem Chg.refl (w:World)(S:Nat→Prop):Chg w w S:=⟨rfl,rfl,rfl,nR _,fun _ _ _=>rfl⟩
theorem Chg.trans {a b c:World}{S:Nat→Prop}(h:Chg a b S)(k:Chg b c S):Chg a c S:=
 ⟨k.os.trans h.os,k.tape.trans h.tape,k.output.trans h.output,nT h.size k.size,fun i hi hs=>(k.block i (Nat.lt_of_lt_of_le hi h.size) hs).trans (h.block i hi hs)⟩
theorem Chg.mono {a b:World}{S T:Nat→Prop}(h:Chg a b S)(hs:∀ k,k<a.heap.size→S k→T k):Chg a b T:=
 ⟨h.os,h.tape,h.output,h.size,fun i hi hn=>h.block i hi fun x=>hn (hs i hi x)⟩
theorem Chg.grown {a b:World}{row:Option Nat}(h:a.grownBy b row):Chg a b (fun k=>some k=row):=
 ⟨h.os,h.tape,h.output,h.size,h.block⟩
theorem Chg.al (a:World)(o:Obj)(S:Nat→Prop):Chg a (a.alloc o) S:=(Chg.grown (World.grownBy_alloc a o none)).mono fun k _ h=>by cases h
theorem Chg.cell {w w':World}{S:Nat→Prop}(h:Chg w w' S){a:Addr}{v:Value}(hc:w.cell? a=some v)(hs:¬S a.block):w'.cell? a=some v:=
 (World.cell?_of_block (h.block a.block (World.block_lt_of_cell? w a hc) hs)).trans hc
theorem Chg.row {w w':World}{S:Nat→Prop}(h:Chg w w' S){base E sz n:Nat}{v:Value}{xs:List Value}(ho:w.ownsRow base E sz v n xs)(hs:∀ g,v.ownBlock=some g→¬S g):w'.ownsRow base E sz v n xs:=by
 refine ⟨ho.1,?_⟩;rcases ho.2 with hn|⟨g,cap,cur,rfl,hb,hgg,rest⟩
 ·exact .inl hn
 ·refine .inr ⟨g,cap,cur,rfl,hb,?_,rest⟩
  rw [h.block g (Array.getElem?_eq_some_iff.1 hgg).1 (hs g rfl)];exact hgg
theorem Chg.ext {w w':World}{S:Nat→Prop}(h:Chg w w' S)(b:World)(hb:Ext b w)(hs:∀ k,k<b.heap.size→¬S k):Ext b w':=
 ⟨h.os.trans hb.os,h.tape.trans hb.tape,h.output.trans hb.output,nT hb.size h.size,fun k hk=>(h.block k (Nat.lt_of_lt_of_le hk hb.size) (hs k hk)).trans (hb.block k hk)⟩
theorem Chg.of_ext {w w':World}(h:Ext w w')(S:Nat→Prop):Chg w w' S:=⟨h.os,h.tape,h.output,h.size,fun k hk _=>h.block k hk⟩
def Blocks (es:List Ent)(g:Nat):Prop:=∃ i,∃ h:i<es.length,es[i].l.ownBlock=some g
def Distinct (es:List Ent):Prop:=∀ i j (hi:i<es.length) (hj:j<es.length),i≠j→es[i].l.ownBlock=none∨es[i].l.ownBlock≠es[j].l.ownBlock
def Holds (w:World)(hb:Nat)(es:List Ent):Prop:=∀ i (h:i<es.length),w.cell? ⟨hb,i*3,none⟩=some es[i].l∧(∃ a n c,w.cell? ⟨hb,i*3+1,none⟩=some (.slice a n c))∧w.cell? ⟨hb,i*3+2,none⟩=some (.int .i64 es[i].n)∧w.frozen? ⟨hb,i*3+1,none⟩=false
theorem Holds.chg {w w':World}{hb:Nat}{es:List Ent}{S:Nat→Prop}(h:Holds w hb es)(c:Chg w w' S)(hs:¬S hb):Holds w' hb es:=
 fun i hi=>by
  obtain ⟨h1,⟨a,n,k,h2⟩,h3,h4⟩:=h i hi
  exact ⟨c.cell h1 hs,⟨a,n,k,c.cell h2 hs⟩,c.cell h3 hs,(World.frozen?_of_block (c.block hb (World.block_lt_of_cell? w _ h1) hs)).trans h4⟩
def Lists (base E:Nat)(w:World)(es:List Ent):Prop:=∀ i (h:i<es.length),∃ xs,w.ownsRow base E 1 es[i].l es[i].len xs
def Marked (base E:Nat)(mk:Int→Value)(w:World)(es:List Ent)(k:Nat):Prop:=∀ i (h:i<es.length),i<k→w.ownsRow base E 1 es[i].l es[i].len (List.replicate es[i].len (mk es[i].n))
def Hd (base E:Nat)(mk:Int→Value)(w wr:World)(es:List Ent)(k:Nat):Prop:=Chg w wr (Blocks es)∧Marked base E mk wr es k∧Lists base E wr es
theorem Aae {base E:Nat}{mk:Int→Value}{w:World}{es:List Ent}(h:Lists base E w es):Hd base E mk w w es 0:=
 ⟨Chg.refl _ _,fun _ _ h=>absurd h (Nat.not_lt_zero _),h⟩
theorem Adn {base E:Nat}{mk:Int→Value}{w wr W:World}{es:List Ent}{k:Nat}(h:Hd base E mk w wr es k)(hk:k<es.length)(hd:Distinct es){o:Obj}(hg:(wr.alloc o).grownBy W es[k].l.ownBlock)
  (ho:W.ownsRow base E 1 es[k].l es[k].len (List.replicate es[k].len (mk es[k].n))):Hd base E mk w W es (k+1):=by
 obtain ⟨h1,h2,h3⟩:=h;have hc:Chg wr W (fun g=>some g=es[k].l.ownBlock):=(Chg.al wr o _).trans (Chg.grown hg)
 have hne:∀ i (hi:i<es.length),i≠k→∀ g,es[i].l.ownBlock=some g→¬some g=es[k].l.ownBlock:=by
  intro i hi hik g hg1 hg2;rcases hd i k hi hk hik with h|h
  ·rw [h] at hg1;cases hg1
  ·exact h (hg1.trans hg2)
 refine ⟨h1.trans (hc.mono fun g _ hg=>⟨k,hk,hg.symm⟩),fun i hi hlt=>?_,fun i hi=>?_⟩
 ·by_cases e:i=k
  ·subst e;exact ho
  ·exact hc.row (h2 i hi (by omega)) (hne i hi e)
 ·by_cases e:i=k
  ·subst e;exact ⟨_,ho⟩
  ·obtain ⟨xs,hx⟩:=h3 i hi
   exact ⟨xs,hc.row hx (hne i hi e)⟩
theorem Jn {w:World}{base E n:Nat}{v:Value}{xs:List Value}(h:w.ownsRow base E 1 v n xs):∃ a c,v=.slice a n c∧n≤c∧xs.length=n∧(0<n→∃ g,a=some ⟨g,0,none⟩):=by
 obtain ⟨a,c,h1,h2,_⟩:=Bz h;refine ⟨a,c,h1,h2,by simpa using h.1,fun hn=>?_⟩;rcases h.2 with ⟨_,h0⟩|⟨g,cap,cur,h3,_⟩
 ·omega
 ·rw [h1] at h3
  simp only [Value.slice.injEq] at h3;exact ⟨g,h3.1⟩
theorem Fc {a b c d:World}{row:Option Nat}(h:a.grownBy b row)(e:Ext b c)(k:c.grownBy d row):a.grownBy d row:=
 ⟨k.os.trans (e.os.trans h.os),k.tape.trans (e.tape.trans h.tape),k.output.trans (e.output.trans h.output),nT h.size (nT e.size k.size),
 fun i hi hn=>(k.block i (Nat.lt_of_lt_of_le hi (nT h.size e.size)) hn).trans ((e.block i (Nat.lt_of_lt_of_le hi h.size)).trans (h.block i hi hn))⟩
def part (m:Value)(xs:List Value)(k:Nat):List Value:=List.replicate k m++xs.drop k
theorem Ae4 (m:Value)(xs:List Value)(k:Nat)(h:k<xs.length):(part m xs k).set k m=part m xs (k+1):=by
 unfold part;rw [List.set_append_right _ _ (by simp),List.length_replicate,Nat.sub_self,List.drop_eq_getElem_cons h,List.set_cons_zero];simp [List.replicate_succ']
theorem Ae5 (m:Value)(xs:List Value):part m xs xs.length=List.replicate xs.length m:=by simp [part]
theorem Acu (m:Value)(xs:List Value):part m xs 0=xs:=by simp [part]
theorem Wg (m:Value)(xs:List Value)(k:Nat)(h:k≤xs.length):(part m xs k).length=xs.length:=by simp [part];omega
theorem Fr {P:Program}{ops:Array Oper}{rest:List Oper}{o:Oper}{a:Act}{Q:Exit→Act→World→Prop}{w w':World}{v' vs vx:Value}(hgd:o.guard=none)(s x:Operand)(t:TypeId)
  (ho:o.op=.call { callee:=.builtin .append,args:=#[s,x],argTypes:=#[t,t] }) (hs:a.eval s=vs) (hx:a.eval x=vx)
  (hr:(Builtin.append_ #[t,t] o.type #[vs,vx]).run P w=.ok v' w') (h:wpList P ops Q rest (a.put o.dst v') w'):wpList P ops Q (o::rest) a w:=by
 refine wpList_plain hgd fun K hK=>?_;unfold Oper.wp execOp;simp only [ho,resolve,invoke,builtin,Sem.run_bind,Sem.run_pure,Result.andThen_ok,List.map_toArray,List.map_cons,List.map_nil,hs,hx,hr];exact hK _ _ h
theorem Gf {P:Program}{o:Oper}{a:Act}{S:World→Value→Prop}{w w':World}{v' vs vx:Value}(s x:Operand)(t:TypeId)
  (ho:o.op=.call { callee:=.builtin .append,args:=#[s,x],argTypes:=#[t,t] }) (hs:a.eval s=vs) (hx:a.eval x=vx)
  (hr:(Builtin.append_ #[t,t] o.type #[vs,vx]).run P w=.ok v' w') (h:S w' v'):Bu P S ((execOp a.eval o).run P w):=by
 unfold execOp;simp only [ho,resolve,invoke,builtin,Sem.run_bind,Sem.run_pure,Result.andThen_ok,List.map_toArray,List.map_cons,List.map_nil,hs,hx,hr];exact h
theorem Kn {P:Program}(w:World)(base:Nat)(t ty e:TypeId)(i:TypeInfo)(z:Value)(size bytes:Nat)(ht:P.underlying t=some (.slice e))(hi:P.info? e=some i)(hz:i.zero=some z)
  (hsize:i.size=size) (hby:i.bytes=bytes) (hzs:z.cells.size=size) (hsz:0<size)
  (v:Value) (n:Nat) (xs:List Value) (hown:w.ownsRow base e size v n xs)
  (a:Addr) (m c:Nat) (news:List Value) (hl:news.length=m*size) (hnews:∀ j u,news[j]? = some u→w.cell? (a.add j)=some u) (h1:∀ u∈news,u.oneCell'=true)
  (h63:n+m≤maxLen) (hbytes:(n+m)*bytes≤140737488355328) (hbase:base≤w.heap.size) (hm:0<m) :
  ∃ v' w',(Builtin.append_ #[t,t] ty #[v,.slice (some a) m c]).run P w=.ok v' w'∧w'.ownsRow base e size v' (n+m) (xs++news) ∧
   ((∃ g cap,v=.slice (some ⟨g,0,none⟩) n cap∧v'=.slice (some ⟨g,0,none⟩) (n+m) cap∧w.grownBy w' (some g))∨(v'.ownBlock=some w.heap.size∧w.grownBy w' none)):=by
 subst hsize;subst hby;have hsmall:n+m≤9223372036854775807:=by simp only [maxLen] at h63;omega
 have hlen:(xs++news).length=(n+m)*i.size:=by rw [List.length_append,hown.1,hl,Nat.add_mul]
 have grown:∀ (old:Nat),old<n+m →
   (w.drew.alloc (.cells (xs.toArray++news.toArray++Builtin.zeroCells z.cells (grownCap w (n+m) old e-(n+m))) e)).ownsRow base e i.size
    (.slice (some ⟨w.heap.size,0,none⟩) (n+m) (grownCap w (n+m) old e)) (n+m) (xs++news) ∧
   w.grownBy (w.drew.alloc (.cells (xs.toArray++news.toArray++Builtin.zeroCells z.cells (grownCap w (n+m) old e-(n+m))) e)) none:=by
  intro old ho;have hge:=grownCap_ge w (n+m) old e;have hcm:grownCap w (n+m) old e≤maxLen:=grownCap_le_maxLen w (n+m) old e h63;refine ⟨⟨hlen,.inr ⟨w.heap.size,_,_,rfl,hbase,heap_alloc_new w.drew _,hge,hcm,?_,?_⟩⟩,⟨rfl,rfl,rfl,by simp,fun k hk _=>Go.heap_alloc_old w.drew _ hk⟩⟩
  ·simp only [Array.size_append,List.size_toArray,size_zeroCells,hzs,hown.1,hl,←Nat.add_mul]
   congr 1;omega
  ·simp only [Array.toList_append,List.append_assoc]
   rw [←List.append_assoc,←hlen];exact List.take_left
 rcases hown.2 with ⟨rfl,rfl⟩|⟨g,cap,cur,rfl,hbg,hg,hnc,hcm,hcs,htake⟩
 ·have hx:xs=[]:=List.eq_nil_of_length_eq_zero (by simpa using hown.1)
  subst hx;have hr:=run_append_nil (P:=P) w t ty e i z ht hi hz a m c news hl hnews (by omega) (by omega) (by have hb:=hbytes;simp only [Nat.zero_add] at hb;omega);have hgr:=grown 0 (by omega);simp only [Nat.zero_add,List.nil_append,Array.empty_append] at hgr ⊢;exact ⟨_,_,hr,hgr.1,.inr ⟨rfl,hgr.2⟩⟩
 ·by_cases hroom:n+m≤cap
  ·obtain ⟨w',r1,r2,r3⟩:=run_append_fits w base t ty e i i.size ht hi rfl g n cap xs hown a m c news hl hnews h1 hroom
   exact ⟨_,w',r1,r2,.inl ⟨g,cap,rfl,rfl,r3⟩⟩
  ·have holds:∀ j u,xs[j]? = some u→w.cell? ((⟨g,0,none⟩:Addr).add j)=some u:=hown.cells (g:=g) rfl
   have hr:=run_append_grow (P:=P) w t ty e i z ht hi hz ⟨g,0,none⟩ n cap xs hown.1 holds a m c news hl hnews (by omega) (by omega) (growslice_fits (by omega) hbytes);have hgr:=grown cap (by omega);exact ⟨_,_,hr,hgr.1,.inr ⟨rfl,hgr.2⟩⟩
def Yi (base E:Nat)(m:Value)(W1 W2:World)(l:Value)(len:Nat)(v:Value)(q:Nat):Prop:=
 W1.grownBy W2 l.ownBlock∧W2.ownsRow base E 1 v (len+q) (List.replicate (len+q) m)∧W2.ownsRow base E 1 l len (List.replicate len m) ∧
  ((∃ g cap,l=.slice (some ⟨g,0,none⟩) len cap∧v=.slice (some ⟨g,0,none⟩) (len+q) cap)∨∀ b,v.ownBlock=some b→W1.heap.size≤b)
theorem Xa {base E:Nat}{m:Value}{W1:World}{l:Value}{len:Nat}(h:W1.ownsRow base E 1 l len (List.replicate len m)):Yi base E m W1 W1 l len l 0:=by
 refine ⟨World.grownBy.refl _ _,h,h,?_⟩;rcases h.2 with ⟨rfl,rfl⟩|⟨g,cap,cur,rfl,_⟩
 ·exact .inr fun b hb=>by cases hb
 ·exact .inl ⟨g,cap,rfl,rfl⟩
theorem Zz {P:Program}{base:Nat}{m:Value}{W1 W2:World}{l:Value}{len:Nat}{v:Value}{q:Nat}{t ty E:TypeId}{i:TypeInfo}{z:Value}{bytes:Nat}(ht:P.underlying t=some (.slice E))(hi:P.info? E=some i)(hz:i.zero=some z)
  (hsize:i.size=1) (hby:i.bytes=bytes) (hzs:z.cells.size=1) (hm:m.oneCell'=true) (h:Yi base E m W1 W2 l len v q) (hl:∀ g,l.ownBlock=some g→g<W1.heap.size) (hb:base≤W1.heap.size)
  (hlen:len+q+1≤1073741824) (hbytes:bytes≤65536) :
  ∃ v' w',(Builtin.append_ #[t,t] ty #[v,.slice (some ⟨W2.heap.size,0,none⟩) 1 1]).run P (W2.alloc (.cells #[m] E))=.ok v' w'∧Yi base E m W1 w' l len v' (q+1):=by
 obtain ⟨h1,h2,h3,h4⟩:=h;have hal:W2.grownBy (W2.alloc (.cells #[m] E)) none:=World.grownBy_alloc _ _ _;have hx2:(W2.alloc (.cells #[m] E)).ownsRow base E 1 v (len+q) (List.replicate (len+q) m):=h2.alloc _;have hx3:(W2.alloc (.cells #[m] E)).ownsRow base E 1 l len (List.replicate len m):=h3.alloc _;have hE:Ext W2 (W2.alloc (.cells #[m] E)):=(xR _).al _;have hs1:=h1.size
 obtain ⟨v',w',r1,r2,r3⟩:=Kn (P:=P) (W2.alloc (.cells #[m] E)) base t ty E i z 1 bytes ht hi hz hsize hby hzs (by omega) v (len+q) _ hx2 ⟨W2.heap.size,0,none⟩ 1 1 [m] rfl
  (by
   intro j u hu
   have:j=0∧u=m:=by
    cases j with
    | zero=>simp at hu;exact ⟨rfl,hu.symm⟩
    | succ j=>simp at hu
   obtain ⟨rfl,rfl⟩:=this
   go_simp)
  (by simpa using hm) (by unfold maxLen;omega) (by
   have:(len+q+1)*bytes≤1073741824*65536:=Nat.mul_le_mul (by omega) hbytes
   omega) (by simp;omega) (by omega)
 have hrep:List.replicate (len+q) m++[m]=List.replicate (len+(q+1)) m:=by rw [←List.replicate_succ'];rfl
 rw [hrep] at r2;refine ⟨v',w',r1,?_⟩;rcases r3 with ⟨g',cap',rfl,rfl,r4⟩|⟨r4,r5⟩
 ·rcases h4 with ⟨g,cap,rfl,he⟩|h4
  ·simp only [Value.slice.injEq,Option.some.injEq,Addr.mk.injEq,and_true,true_and] at he
   obtain ⟨rfl,rfl⟩:=he;refine ⟨Fc h1 hE r4,r2,?_,.inl ⟨g',cap',rfl,rfl⟩⟩;refine ⟨by simp,.inr ?_⟩;rcases r2.2 with ⟨x,_⟩|⟨g,cap,cur,x,b1,b2,b3,b4,b5,b6⟩
   ·cases x
   ·simp only [Value.slice.injEq,Option.some.injEq,Addr.mk.injEq,and_true,true_and] at x
    obtain ⟨rfl,rfl⟩:=x;refine ⟨g',cap',cur,rfl,b1,b2,by omega,b4,b5,?_⟩;rw [Nat.mul_one] at b6 ⊢;have:=congrArg (List.take len) b6;rw [List.take_take,Nat.min_eq_left (by omega)] at this;rw [this,List.take_replicate,Nat.min_eq_left (by omega)]
  ·have hg:=h4 g' rfl
   refine ⟨?_,r2,hx3.kept r4 ?_,.inr fun b hb=>?_⟩
   ·exact ⟨r4.os.trans (hE.os.trans h1.os),r4.tape.trans (hE.tape.trans h1.tape),r4.output.trans (hE.output.trans h1.output),nT h1.size (nT hE.size r4.size),
     fun k hk hn=>(r4.block k (by simp;omega) (by simp;omega)).trans ((hal.block k (by omega) (by simp)).trans (h1.block k hk hn))⟩
   ·cases hlb:l.ownBlock with
    | none=>exact .inl rfl
    | some b=>exact .inr (by have:=hl b hlb;simp;omega)
   ·have:g'=b:=by simpa [Value.ownBlock] using hb
    omega
 ·have hsz:(W2.alloc (.cells #[m] E)).heap.size=W2.heap.size+1:=by simp
  refine ⟨?_,r2,hx3.kept r5 ?_,.inr fun b hb=>?_⟩
  ·exact ⟨r5.os.trans (hE.os.trans h1.os),r5.tape.trans (hE.tape.trans h1.tape),r5.output.trans (hE.output.trans h1.output),nT h1.size (nT hE.size r5.size),
    fun k hk hn=>(r5.block k (by omega) (by simp)).trans ((hal.block k (by omega) (by simp)).trans (h1.block k hk hn))⟩
  ·cases l.ownBlock<;>simp
  ·rw [r4] at hb
   have:(W2.alloc (.cells #[m] E)).heap.size=b:=by simpa using hb
   omega
def GrowI (base E:Nat)(mk:Int→Value)(w wr:World)(hb:Nat)(es:List Ent)(k:Nat):Prop:=
 Chg w wr (fun g=>Blocks es g∨g=hb)∧Marked base E mk wr es es.length∧Holds wr hb es ∧
  ∀ i (h:i<es.length),i<k→∃ v,wr.cell? ⟨hb,i*3+1,none⟩=some v∧wr.ownsRow base E 1 v (es[i].len+70) (List.replicate (es[i].len+70) (mk es[i].n))∧∀ b,v.ownBlock=some b→es[i].l.ownBlock=some b∨w.heap.size≤b
def LookI (base E:Nat)(mk:Int→Value)(w wr:World)(hb:Nat)(es:List Ent)(k:Nat):Prop:=
 True∧Marked base E mk wr es es.length∧Holds wr hb es ∧
  ∀ i (h:i<es.length),i<k→∃ v,wr.cell? ⟨hb,i*3+1,none⟩=some v∧wr.ownsRow base E 1 v (es[i].len+70) (List.replicate (es[i].len+70) (mk es[i].n))∧∀ b,v.ownBlock=some b→es[i].l.ownBlock=some b∨w.heap.size≤b
theorem GrowI.look {base E:Nat}{mk:Int→Value}{w wr:World}{hb:Nat}{es:List Ent}{k:Nat}(h:GrowI base E mk w wr hb es k):LookI base E mk w wr hb es k:=⟨trivial,h.2⟩
theorem LookI.chg {base E:Nat}{mk:Int→Value}{w wr w':World}{hb:Nat}{es:List Ent}{k:Nat}{S:Nat→Prop}(h:LookI base E mk w wr hb es k)(c:Chg wr w' S)(hs:∀ g,S g→g<w.heap.size∧g≠hb∧¬Blocks es g):LookI base E mk w w' hb es k:=by
 obtain ⟨_,h1,h2,h3⟩:=h;refine ⟨trivial,fun i hi hik=>c.row (h1 i hi hik) fun g hg hS=>(hs g hS).2.2 ⟨i,hi,hg⟩,h2.chg c fun hS=>(hs _ hS).2.1 rfl,fun i hi hik=>?_⟩;obtain ⟨v,v1,v2,v3⟩:=h3 i hi hik;refine ⟨v,c.cell v1 fun hS=>(hs _ hS).2.1 rfl,c.row v2 fun g hg hS=>?_,v3⟩;rcases v3 g hg with h|h
 ·exact (hs g hS).2.2 ⟨i,hi,h⟩
 ·have:=(hs g hS).1
  omega
theorem Marked.chg {base E:Nat}{mk:Int→Value}{w w':World}{es:List Ent}{k:Nat}{S:Nat→Prop}(h:Marked base E mk w es k)(c:Chg w w' S)(hs:∀ g,S g→¬Blocks es g):Marked base E mk w' es k:=
 fun i hi hik=>c.row (h i hi hik) fun g hg hS=>hs g hS ⟨i,hi,hg⟩
theorem Lists.chg {base E:Nat}{w w':World}{es:List Ent}{S:Nat→Prop}(h:Lists base E w es)(c:Chg w w' S)(hs:∀ g,S g→¬Blocks es g):Lists base E w' es:=fun i hi=>by
 obtain ⟨xs,hx⟩:=h i hi
 exact ⟨xs,c.row hx fun g hg hS=>hs g hS ⟨i,hi,hg⟩⟩
theorem Xc {base E:Nat}{mk:Int→Value}{w:World}{hb:Nat}{es:List Ent}(h1:Marked base E mk w es es.length)(h2:Holds w hb es):GrowI base E mk w w hb es 0:=
 ⟨Chg.refl _ _,h1,h2,fun _ _ h=>absurd h (Nat.not_lt_zero _)⟩
theorem Aac {base E:Nat}{mk:Int→Value}{w wr W2:World}{hb:Nat}{es:List Ent}{k:Nat}{o:Obj}{v:Value}(h:GrowI base E mk w wr hb es k)(hk:k<es.length)(hd:Distinct es)
  (hhb:hb<w.heap.size) (hnb:¬Blocks es hb) (hB:∀ g,Blocks es g→g<w.heap.size) (hg:Yi base E (mk es[k].n) (wr.alloc o) W2 es[k].l es[k].len v 70) :
  GrowI base E mk w (W2.setCell ⟨hb,k*3+1,none⟩ v) hb es (k+1):=by
 obtain ⟨h1,h2,h3,h4⟩:=h;obtain ⟨g1,g2,g3,g4⟩:=hg;have hc:Chg wr W2 (fun g=>some g=es[k].l.ownBlock):=(Chg.al wr o _).trans (Chg.grown g1)
 have hc3:Chg W2 (W2.setCell ⟨hb,k*3+1,none⟩ v) (fun g=>g=hb):=
  ⟨rfl,rfl,rfl,by simp,fun j _ hj=>heap_setCell_other W2 ⟨hb,k*3+1,none⟩ j v (fun e=>hj e)⟩
 have hs:=h1.size;have hs2:=hc.size
 have hne:∀ i (hi:i<es.length),i≠k→∀ g,es[i].l.ownBlock=some g→¬some g=es[k].l.ownBlock:=by
  intro i hi hik g hg1 hg2;rcases hd i k hi hk hik with h|h
  ·rw [h] at hg1;cases hg1
  ·exact h (hg1.trans hg2)
 have hkb:¬(some hb=es[k].l.ownBlock):=fun e=>hnb ⟨k,hk,e.symm⟩;have hH2:=h3.chg hc hkb
 have hoff:∀ i r,i<es.length→r<3→(r≠1∨i≠k)→∀ u,W2.cell? ⟨hb,i*3+r,none⟩=some u→(W2.setCell ⟨hb,k*3+1,none⟩ v).cell? ⟨hb,i*3+r,none⟩=some u:=by
  intro i r _ hr hir u hu;rw [World.cell?_setCell_other]
  ·exact hu
  ·intro e
   have:k*3+1=i*3+r:=congrArg Addr.off e;omega
 have hvk:(W2.setCell ⟨hb,k*3+1,none⟩ v).cell? ⟨hb,k*3+1,none⟩=some v:=by
  obtain ⟨_,⟨a,n,c,hx⟩,_⟩:=hH2 k hk;exact World.cell?_setCell_same (h:=hx) ..
 have hvb:∀ b,v.ownBlock=some b→es[k].l.ownBlock=some b∨w.heap.size≤b:=by
  intro b hb';rcases g4 with ⟨g,cap,hl,rfl⟩|g4
  ·left
   rw [hl];exact hb'
  ·right
   have:=g4 b hb';simp at this;omega
 have hvs:∃ a n c,v=.slice a n c:=by
  obtain ⟨a,c,e,_⟩:=Bz g2;exact ⟨a,_,c,e⟩
 refine ⟨((h1.trans (hc.mono fun g _ hg=>.inl ⟨k,hk,hg.symm⟩)).trans (hc3.mono fun g _ hg=>.inr hg)),fun i hi _=>?_,fun i hi=>?_,fun i hi hik=>?_⟩
 ·refine hc3.row ?_ (fun g hg e=>hnb ⟨i,hi,by rw [←e];exact hg⟩)
  by_cases e:i=k
  ·subst e;exact g3
  ·exact hc.row (h2 i hi hi) (hne i hi e)
 ·obtain ⟨x1,⟨a,n,c,x2⟩,x3,x4⟩:=hH2 i hi
  refine ⟨hoff i 0 hi (by omega) (by omega) _ x1,?_,hoff i 2 hi (by omega) (by omega) _ x3,by rw [World.frozen?_setCell];exact x4⟩;by_cases e:i=k
  ·subst e
   obtain ⟨a,n,c,rfl⟩:=hvs;exact ⟨a,n,c,hvk⟩
  ·exact ⟨a,n,c,hoff i 1 hi (by omega) (by omega) _ x2⟩
 ·by_cases e:i=k
  ·subst e
   refine ⟨v,hvk,hc3.row g2 (fun g hg e=>?_),hvb⟩;rcases hvb g hg with h|h
   ·exact hnb ⟨i,hi,by rw [←e];exact h⟩
   ·omega
  ·obtain ⟨u,u1,u2,u3⟩:=h4 i hi (by omega)
   refine ⟨u,hoff i 1 hi (by omega) (by omega) _ (hc.cell u1 hkb),hc3.row (hc.row u2 fun g hg he=>?_) (fun g hg he=>?_),u3⟩
   ·rcases u3 g hg with h|h
    ·exact hne i hi e g h he
    ·have:=hB g ⟨k,hk,he.symm⟩
     omega
   ·rcases u3 g hg with h|h
    ·exact hnb ⟨i,hi,by rw [←he];exact h⟩
    ·omega
def Ch (es:List Ent):List Value:=es.flatMap fun e=>[e.l,.slice none 0 0,.int .i64 e.n]
theorem Ht (es:List Ent):(Ch es).length=es.length*3:=by
 induction es with
 | nil=>rfl
 | cons e es ih=>
  have:Ch (e::es)=[e.l,.slice none 0 0,.int .i64 e.n]++Ch es:=rfl;rw [this,List.length_append,ih];simp;omega
theorem Lq (es:List Ent):∀ i (h:i<es.length),(Ch es)[i*3]? = some es[i].l∧(Ch es)[i*3+1]? = some (.slice none 0 0)∧(Ch es)[i*3+2]? = some (.int .i64 es[i].n):=by
 induction es with
 | nil=>intro i h;simp at h
 | cons e es ih=>
  intro i h;have he:Ch (e::es)=[e.l,.slice none 0 0,.int .i64 e.n]++Ch es:=rfl;cases i with
  | zero=>rw [he];exact ⟨rfl,rfl,rfl⟩
  | succ i=>
   have hi:i<es.length:=by simpa using h
   obtain ⟨h1,h2,h3⟩:=ih i hi;rw [he];refine ⟨?_,?_,?_⟩
   ·rw [List.getElem?_append_right (by simp;omega)];simp only [List.length_cons,List.length_nil,List.getElem_cons_succ];rw [show (i+1)*3-(0+1+1+1)=i*3 by omega];exact h1
   ·rw [List.getElem?_append_right (by simp;omega)];simp only [List.length_cons,List.length_nil];rw [show (i+1)*3+1-(0+1+1+1)=i*3+1 by omega];exact h2
   ·rw [List.getElem?_append_right (by simp;omega)];simp only [List.length_cons,List.length_nil,List.getElem_cons_succ];rw [show (i+1)*3+2-(0+1+1+1)=i*3+2 by omega];exact h3
theorem Ob (es:List Ent)(e:Ent):Ch (es++[e])=Ch es++[e.l,.slice none 0 0,.int .i64 e.n]:=by simp [Ch]
def Own3 (base T:Nat)(w:World)(s:Value)(es:List Ent):Prop:=w.ownsRow base T 3 s es.length (Ch es)
theorem Own3.holds {base T:Nat}{w:World}{s:Value}{es:List Ent}(h:Own3 base T w s es)(hne:es≠[]):∃ hb c,s=.slice (some ⟨hb,0,none⟩) es.length c∧Holds w hb es∧base≤hb∧hb<w.heap.size:=by
 rcases h.2 with ⟨_,h0⟩|⟨g,cap,cur,rfl,a2,a3,a4,a5,a6,a7⟩
 ·exact absurd (List.eq_nil_of_length_eq_zero h0) hne
 ·refine ⟨g,cap,rfl,fun i hi=>?_,a2,(Array.getElem?_eq_some_iff.1 a3).1⟩
  obtain ⟨e1,e2,e3⟩:=Lq es i hi
  have hg:∀ j u,(Ch es)[j]? = some u→w.cell? ⟨g,j,none⟩=some u:=by
   intro j u hu;have:=World.ownsRow.cells h (g:=g) rfl j u hu;rwa [show (⟨g,0,none⟩:Addr).add j=⟨g,j,none⟩ by unfold Addr.add;split<;>simp_all] at this
  exact ⟨hg _ _ e1,⟨none,0,0,hg _ _ e2⟩,hg _ _ e3,frozen_of_row w g _ cur T a3⟩
def upd (p:Nat)(x y z:Value)(o:Obj):Obj:=match o with
 | .cells cur T fz=>.cells (((cur.setIfInBounds p x).setIfInBounds (p+1) y).setIfInBounds (p+2) z) T fz
 | o=>o
theorem Acc (cur:Array Value)(p:Nat)(x y z:Value):((((((cur.setIfInBounds p x).setIfInBounds (p+1) y).setIfInBounds (p+2) z).setIfInBounds p x).setIfInBounds (p+1) y).setIfInBounds (p+2) z)=((cur.setIfInBounds p x).setIfInBounds (p+1) y).setIfInBounds (p+2) z:=by
 apply Array.ext_getElem?
 intro i;simp only [Array.getElem?_setIfInBounds,Array.size_setIfInBounds];by_cases h2:p+2=i
 ·simp [h2]
 ·by_cases h1:p+1=i
  ·simp [h1,h2]
  ·by_cases h0:p=i
   ·subst h0;simp
   ·simp [h0,h1,h2]
theorem Agw (p:Nat)(x y z:Value)(o:Obj):upd p x y z (upd p x y z o)=upd p x y z o:=by
 cases o with
 | cells cur T fz=>exact congrArg (fun c=>Obj.cells c T fz) (Acc cur p x y z)
 | _=>rfl
structure AppR (hb:Option Nat) (p:Nat) (x y z:Value) (w w':World):Prop where
 os:w'.os=w.os
 tape:w'.tape=w.tape
 output:w'.output=w.output
 size:w.heap.size≤w'.heap.size
 block:∀ k,k<w.heap.size→w'.heap[k]? = w.heap[k]?∨some k=hb∧w'.heap[k]? = (w.heap[k]?).map (upd p x y z)
theorem AppR.refl {hb:Option Nat}{p:Nat}{x y z:Value}(w:World):AppR hb p x y z w w:=⟨rfl,rfl,rfl,nR _,fun _ _=>.inl rfl⟩
theorem AppR.trans {hb:Option Nat}{p:Nat}{x y z:Value}{a b c:World}(h:AppR hb p x y z a b)(k:AppR hb p x y z b c):AppR hb p x y z a c:=by
 refine ⟨k.os.trans h.os,k.tape.trans h.tape,k.output.trans h.output,nT h.size k.size,fun i hi=>?_⟩;rcases k.block i (Nat.lt_of_lt_of_le hi h.size) with e|⟨e,f⟩
 ·rcases h.block i hi with e'|⟨e',f'⟩
  ·exact .inl (e.trans e')
  ·exact .inr ⟨e',e.trans f'⟩
 ·rcases h.block i hi with e'|⟨e',f'⟩
  ·exact .inr ⟨e,by rw [f,e']⟩
  ·refine .inr ⟨e,?_⟩
   rw [f,f',Option.map_map];congr 1;funext o;exact Agw ..
theorem AppR.of_ext {hb:Option Nat}{p:Nat}{x y z:Value}{w w':World}(h:Ext w w'):AppR hb p x y z w w':=⟨h.os,h.tape,h.output,h.size,fun k hk=>.inl (h.block k hk)⟩
theorem AppR.chg {hb:Option Nat}{p:Nat}{x y z:Value}{w w':World}(h:AppR hb p x y z w w'):Chg w w' (fun g=>some g=hb):=
 ⟨h.os,h.tape,h.output,h.size,fun k hk hn=>(h.block k hk).resolve_right fun e=>hn e.1⟩
theorem AppR.row {hb:Option Nat}{p:Nat}{x y z:Value}{w w':World}(h:AppR hb p x y z w w'){base E sz n:Nat}{v:Value}{xs:List Value}(ho:w.ownsRow base E sz v n xs)
  (hs:∀ g,v.ownBlock=some g→some g=hb→xs.length≤p∨(p+3=xs.length∧xs[p]? = some x∧xs[p+1]? = some y∧xs[p+2]? = some z)):w'.ownsRow base E sz v n xs:=by
 refine ⟨ho.1,?_⟩;rcases ho.2 with hn|⟨g,cap,cur,rfl,hb',hgg,b4,b5,b6,b7⟩
 ·exact .inl hn
 ·rcases h.block g (Array.getElem?_eq_some_iff.1 hgg).1 with e|⟨e,f⟩
  ·exact .inr ⟨g,cap,cur,rfl,hb',by rw [e];exact hgg,b4,b5,b6,b7⟩
  ·subst e
   refine .inr ⟨g,cap,_,rfl,hb',by rw [f,hgg];rfl,b4,b5,by simpa using b6,?_⟩;rw [←b7] at hs ⊢;have hle:n*sz≤cur.size:=by rw [b6];exact Nat.mul_le_mul_right _ b4
   apply List.ext_getElem?
   intro i;simp only [List.getElem?_take,Array.getElem?_toList];split
   ·rename_i hi
    rcases hs _ rfl rfl with h1|⟨h1,h2,h3,h4⟩
    ·rw [List.length_take,Array.length_toList] at h1
     rw [Array.getElem?_setIfInBounds_ne (by omega),Array.getElem?_setIfInBounds_ne (by omega),Array.getElem?_setIfInBounds_ne (by omega)]
    ·rw [List.length_take,Array.length_toList] at h1
     simp only [List.getElem?_take,Array.getElem?_toList] at h2 h3 h4;rw [if_pos (by omega)] at h2 h3 h4;simp only [Array.getElem?_setIfInBounds,Array.size_setIfInBounds];repeat' split
     all_goals first|rfl|omega|(subst_vars;simp_all)
   ·rfl
theorem Acb (cur:List Value)(p:Nat)(x y z:Value)(h:p+3≤cur.length):((cur.set p x).set (p+1) y).set (p+2) z=cur.take p++[x,y,z]++cur.drop (p+3):=by
 have e1:cur=cur.take p++(cur.drop p):=(List.take_append_drop p cur).symm;have h0:(cur.take p).length=p:=by rw [List.length_take];omega
 rcases hd:cur.drop p with _|⟨a,t⟩
 ·have:=congrArg List.length hd;simp at this;omega
 ·rcases t with _|⟨b,t⟩
  ·have:=congrArg List.length hd;simp at this;omega
  ·rcases t with _|⟨c,t⟩
   ·have:=congrArg List.length hd;simp at this;omega
   ·have e3:cur.drop (p+3)=t:=by
     rw [←List.drop_drop,hd];rfl
    rw [e3];conv=>lhs;rw [e1,hd]
    rw [List.set_append_right _ _ (by omega),List.set_append_right _ _ (by omega),List.set_append_right _ _ (by omega),h0];simp
theorem Re {P:Program}(w:World)(base:Nat)(t ty T:TypeId)(i:TypeInfo)(z:Value)(bytes:Nat)(ht:P.underlying t=some (.slice T))(hi:P.info? T=some i)(hz:i.zero=some z)
  (hsize:i.size=3) (hby:i.bytes=bytes) (hzs:z.cells.size=3) (s:Value) (es:List Ent) (hown:Own3 base T w s es) (e:Ent) (b:Nat)
  (hb:w.heap[b]? = some (.cells #[e.l,.slice none 0 0,.int .i64 e.n] T)) (h1:e.l.oneCell'=true) (hlen:es.length≤1000000) (hbytes:bytes≤65536) (hbase:base≤w.heap.size) :
  ∃ v' w',(Builtin.append_ #[t,t] ty #[s,.slice (some ⟨b,0,none⟩) 1 1]).run P w=.ok v' w'∧AppR s.ownBlock (es.length*3) e.l (.slice none 0 0) (.int .i64 e.n) w w'∧Own3 base T w' v' (es++[e])∧(v'.ownBlock=s.ownBlock∨v'.ownBlock=some w.heap.size):=by
 have hnews:∀ j u,[e.l,.slice none 0 0,.int .i64 e.n][j]? = some u→w.cell? ((⟨b,0,none⟩:Addr).add j)=some u:=by
  intro j u hu;have hadd:(⟨b,0,none⟩:Addr).add j=⟨b,j,none⟩:=by unfold Addr.add;split<;>simp_all
  rw [hadd,cell_of_row w b j _ T (0,0) hb];simpa using hu
 have hone:∀ u∈[e.l,.slice none 0 0,.int .i64 e.n],u.oneCell'=true:=by
  intro u hu;simp only [List.mem_cons,List.not_mem_nil,or_false] at hu;rcases hu with rfl|rfl|rfl
  ·exact h1
  ·rfl
  ·rfl
 have hbb:(es.length+1)*bytes≤140737488355328:=by
  have:(es.length+1)*bytes≤1000001*65536:=Nat.mul_le_mul (by omega) hbytes;omega
 obtain ⟨v',w',r1,r2,r3⟩:=Kn (P:=P) w base t ty T i z 3 bytes ht hi hz hsize hby hzs (by omega) s es.length _ hown ⟨b,0,none⟩ 1 1 _ rfl hnews hone (by unfold maxLen;omega) hbb hbase (by omega);refine ⟨v',w',r1,?_,by unfold Own3;rw [Ob];simpa using r2,?_⟩
 ·rcases r3 with ⟨g,cap,rfl,rfl,r4⟩|⟨r4,r5⟩
  ·refine ⟨r4.os,r4.tape,r4.output,r4.size,fun k hk=>?_⟩
   by_cases hkg:k=g
   ·subst hkg
    right;rcases hown.2 with ⟨x,_⟩|⟨g,cap',cur,x,b1,b2,b3,b4,b5,b6⟩
    ·cases x
    ·simp only [Value.slice.injEq,Option.some.injEq,Addr.mk.injEq,and_true,true_and] at x
     obtain ⟨rfl,rfl⟩:=x;rcases r2.2 with ⟨x,_⟩|⟨g,cap',cur',x,c1,c2,c3,c4,c5,c6⟩
     ·cases x
     ·simp only [Value.slice.injEq,Option.some.injEq,Addr.mk.injEq,and_true,true_and] at x
      obtain ⟨rfl,rfl⟩:=x;refine ⟨rfl,?_⟩;have hr:=run_append_room (P:=P) w t ty T i ht hi k es.length cap cur b2 ⟨b,0,none⟩ 1 1 _ (by rw [hsize];rfl) hnews hone c3 (by rw [hsize,b5];simp;omega);rw [hr] at r1;simp only [Result.ok.injEq] at r1;rw [←r1.2,setRow_heap w k cur _ T _ b2,b2];simp only [Option.map,upd];congr 2;apply Array.ext';simp only [Array.toList_setIfInBounds];rw [Acb _ _ _ _ _ (by simp only [Array.length_toList];omega),hsize];simp
   ·exact .inl (r4.block k hk (by simpa using hkg))
  ·exact ⟨r5.os,r5.tape,r5.output,r5.size,fun k hk=>.inl (r5.block k hk (by simp))⟩
 ·rcases r3 with ⟨g,cap,rfl,rfl,r4⟩|⟨r4,r5⟩
  ·exact .inl rfl
  ·exact .inr r4
def PB (b0 T:Nat)(l:Value)(n:Int)(W:World)(v:Value):Prop:=∃ b,v=.slice (some ⟨b,0,none⟩) 1 1∧b0≤b∧W.heap[b]? = some (.cells #[l,.slice none 0 0,.int .i64 n] T)
def PA (base T b0:Nat)(o:Option Nat)(es:List Ent)(W:World)(v:Value):Prop:=Own3 base T W v es∧(v.ownBlock=o∨∃ b,v.ownBlock=some b∧b0≤b)
theorem PB.stable {b0 T:Nat}{l:Value}{n:Int}{o:Option Nat}{p:Nat}{x y z:Value}(ho:∀ g,o=some g→g<b0){W W':World}{v:Value}(h:AppR o p x y z W W')(hp:PB b0 T l n W v):PB b0 T l n W' v:=by
 obtain ⟨b,h1,h2,h3⟩:=hp;refine ⟨b,h1,h2,?_⟩;rw [(h.block b (Array.getElem?_eq_some_iff.1 h3).1).resolve_right fun e=>by have:=ho b e.1.symm;omega];exact h3
theorem PA.stable {base T b0:Nat}{o:Option Nat}{es:List Ent}{e:Ent}{W W':World}{v:Value}(h:AppR o (es.length*3) e.l (.slice none 0 0) (.int .i64 e.n) W W')(hp:PA base T b0 o (es++[e]) W v):PA base T b0 o (es++[e]) W' v:=by
 obtain ⟨h1,h2⟩:=hp;refine ⟨h.row h1 fun g _ _=>.inr ?_,h2⟩;obtain ⟨e1,e2,e3⟩:=Lq (es++[e]) es.length (by simp);rw [Ht];refine ⟨by simp;omega,?_,e2,?_⟩
 ·rw [e1];simp
 ·rw [e3];simp
theorem Own3.stable {base T:Nat}{s:Value}{es:List Ent}{W W':World}{x y z:Value}(h:AppR s.ownBlock (es.length*3) x y z W W')(hp:Own3 base T W s es):Own3 base T W' s es:=
 h.row hp fun g _ _=>.inl (by rw [Ht];exact nR _)
theorem Pi {id:Nat}{l:List Oper}{a:Act}{w:World}{Q:Exit→Act→World→Prop}(o:Option Nat)(p:Nat)(x y z:Value)(specs:List FSpec)(hok:okFree specs.length a.tmps.size l=true)(hst:StableAll (AppR o p x y z) specs)
  (h:freeSteps Tryz.prog l (AppR o p x y z) w Q 0 specs l a []):(Code.region id l.toArray true).wp Tryz.prog Q a w:=
 region_free (AppR o p x y z) specs mixed hok AppR.refl (fun _ _ _=>AppR.trans) (fun w=>AppR.of_ext (xR w).dr) (stableAll_mem hst) h
def Rest (bk j:Nat)(w w':World):Prop:=∀ i,i≠0→i≠j→w'.cell? ⟨bk,i,none⟩=w.cell? ⟨bk,i,none⟩
theorem Own3.shape {base T:Nat}{w:World}{v:Value}{es:List Ent}(h:Own3 base T w v es):∃ a c,v=.slice a es.length c:=by
 rcases h.2 with ⟨rfl,h0⟩|⟨g,cap,cur,rfl,_⟩
 ·exact ⟨none,0,by rw [h0]⟩
 ·exact ⟨_,_,rfl⟩
def Kept (bk j base T:Nat)(w:World)(s:Value)(es:List Ent)(e:Ent)(w':World):Prop:=
 ∃ sa' sc',Chg w w' (fun g=>g=bk∨some g=s.ownBlock)∧w'.cell? ⟨bk,0,none⟩=some (.int .i64 e.n)∧w'.cell? ⟨bk,j,none⟩=some (.slice sa' (es.length+1) sc') ∧
  (∀ i,w'.frozen? ⟨bk,i,none⟩=false)∧Rest bk j w w'∧PA base T w.heap.size s.ownBlock (es++[e]) w' (.slice sa' (es.length+1) sc')
theorem Abl {bk j base T:Nat}{w w1 W:World}{s s' va:Value}{es:List Ent}{e:Ent}{p:Nat}{x y z:Value}(hj:j≠0)(hbw:bk<w.heap.size)(hbk:some bk≠s.ownBlock)(hc1:Chg w w1 (fun g=>g=bk))(hsz:w1.heap.size=w.heap.size)(kr:Rest bk j w w1)
  (k0:w1.cell? ⟨bk,0,none⟩=some (.int .i64 e.n)) (k4:w1.cell? ⟨bk,j,none⟩=some s') (kf:∀ i,w1.frozen? ⟨bk,i,none⟩=false) (hW:AppR s.ownBlock p x y z w1 W) (hp:PA base T w1.heap.size s.ownBlock (es++[e]) W va) :
  Kept bk j base T w s es e (W.setCell ⟨bk,j,none⟩ va):=by
 have hb:W.heap[bk]? = w1.heap[bk]?:=(hW.block bk (by omega)).resolve_right fun h=>hbk h.1;have hc:Chg W (W.setCell ⟨bk,j,none⟩ va) (fun g=>g=bk):=⟨rfl,rfl,rfl,by simp,fun i _ hi=>heap_setCell_other W _ i _ hi⟩
 obtain ⟨a',c',hva⟩:=hp.1.shape;have hcell:∀ i,W.cell? ⟨bk,i,none⟩=w1.cell? ⟨bk,i,none⟩:=fun i=>World.cell?_of_block hb
 have hne:∀ g,va.ownBlock=some g→¬g=bk:=by
  intro g hg e;rcases hp.2 with h|⟨b,h,h'⟩
  ·exact hbk (by rw [←h,hg,e])
  ·have:g=b:=by rw [h] at hg;exact (Option.some.inj hg).symm
   omega
 have hlen:(es++[e]).length=es.length+1:=by simp
 rw [hlen] at hva;refine ⟨a',c',(hc1.mono fun g _ h=>.inl h).trans ((hW.chg.mono fun g _ h=>.inr h).trans (hc.mono fun g _ h=>.inl h)),?_,?_,?_,?_,?_⟩
 ·rw [World.cell?_setCell_other (a:=⟨bk,j,none⟩) (b:=⟨bk,0,none⟩) (h:=fun e=>hj (congrArg Addr.off e)),hcell,k0]
 ·rw [←hva]
  exact World.cell?_setCell_same (h:=(hcell j).trans k4) ..
 ·intro i
  rw [World.frozen?_setCell,World.frozen?_of_block hb];exact kf i
 ·intro i h0 hij
  rw [World.cell?_setCell_other (a:=⟨bk,j,none⟩) (b:=⟨bk,i,none⟩) (h:=fun e=>Ne.symm hij (congrArg Addr.off e)),hcell];exact kr i h0 hij
 ·rw [←hva]
  refine ⟨hc.row hp.1 hne,?_⟩;rw [←hsz];exact hp.2
end Go.Proofs.YteogdoglboddhaaGreatDoor
