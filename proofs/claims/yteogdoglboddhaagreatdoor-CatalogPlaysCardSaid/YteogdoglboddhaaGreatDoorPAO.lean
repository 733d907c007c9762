/-
  Put, Drop, Get, Near, Text, All of a catalogue, and of the reference's of the same parts: their answers by what the parts are. law25: asked, Put, of a catalogue that is gone: printed by tools/gen_asked2.py. The Book: lists whose elements have several cells. The Book: the kind Part (printed by tools/gen_bookpt.py). A Book of limbs and parts: what it holds; what stays beside it (printed by tools/gen_bk.py). law25: asked, of a catalogue that is there: what it leaves; what stays while the answer's row is stored and while the map turns.
-/
import Derived.Test.YteogdoglboddhaaGreatDoorPAN
import Derived.Test.YteogdoglboddhaaGreatDoorPAL
import Derived.Test.YteogdoglboddhaaGreatDoorPAM
import Derived.Test.YteogdoglboddhaaGreatDoorPAK
import Derived.Test.YteogdoglboddhaaGreatDoorPAG
import Derived.Laws.Cover3
import Derived.Test.YteogdoglboddhaaGreatDoorPAF
import Derived.Test.YteogdoglboddhaaGreatDoorPAE
set_option maxHeartbeats 6400000
namespace Go.Proofs.YteogdoglboddhaaGreatDoor
set_option maxRecDepth 100000
open Go Go.RowKit Go.Proofs
abbrev Am (es:List (PD×Value)):List PD:=es.map (·.1)
def isD (s:ByteArray)(d:PD):Bool:=d.nm.data.toList==s.data.toList
def Ea (s:ByteArray)(D:List PD):Option PD:=D.find? (isD s)
theorem Sz (s:ByteArray)(es:List (PD×Value)):Ea s (Am es)=(Ay s es).map (·.1):=by
 unfold Ea Ay;rw [List.find?_map];rfl
theorem Iw {s:ByteArray}{es:List (PD×Value)}{D:List PD}(h:Am es=D)(hf:Ea s D=none):Ay s es=none:=by
 rw [←h,Sz] at hf;cases hr:Ay s es with
 | none=>rfl
 | some y=>rw [hr] at hf;cases hf
theorem Hb {s:ByteArray}{es:List (PD×Value)}{D:List PD}{d:PD}(h:Am es=D)(hf:Ea s D=some d):∃ v,Ay s es=some (d,v):=by
 rw [←h,Sz] at hf;cases hr:Ay s es with
 | none=>rw [hr] at hf;cases hf
 | some y=>
  rw [hr] at hf;obtain ⟨a,v⟩:=y;have:a=d:=Option.some.inj hf;exact ⟨v,by rw [this]⟩
def insD (d:PD)(D:List PD):List PD:=Am (insP (d,undef) (D.map fun x=>(x,undef)))
theorem Wx {d:PD}{v:Value}{es:List (PD×Value)}{D:List PD}(h:Am es=D):Am (insP (d,v) es)=insD d D:=by
 refine Vs ?_;rw [List.map_map];exact h.trans (by simp [Function.comp_def])
def Af4 (s:ByteArray)(D:List PD):List PD:=D.filter fun d=>!isD s d
theorem Te {s:ByteArray}{es:List (PD×Value)}{D:List PD}(h:Am es=D):Am (es.filter fun p=>!Bb s p)=Af4 s D:=by
 rw [←h];unfold Am Af4;rw [List.filter_map];rfl
def putA (r:RD)(D:List PD):Int×List PD:=
 if Co r.nm.data.toList=false then (9,D) else match Nv r with
 | none=>(1,D)
 | some d=>if (Ea r.nm D).isSome then (10,D) else if 64≤D.length then (12,D) else (0,insD d D)
def CatQ (w:World)(g M:Nat)(es:List (PD×Value))(c:Int)(D:List PD)(e:Ending)(w':World):Prop:=
 e=.returned (.int .i64 c)∧∃ es',Am es'=D∧Cat w' g M es'∧Chg w w' (· = M)∧∀ k,catL g M es' k→catL g M es k∨w.heap.size≤k
def RefQ (w:World)(l:Value)(rs:List (PD×Value))(c:Int)(D:List PD)(e:Ending)(w':World):Prop:=
 ∃ a n k rs',e=.returned (.tuple #[.agg #[.bool false,.slice a n k],.int .i64 c])∧Am rs'=D∧RefC w' (.slice a n k) rs'∧Ext w w'∧∀ k',refB (.slice a n k) rs' k'→refB l rs k'∨w.heap.size≤k'
theorem CatQ.stay {w w':World}{g M:Nat}{es:List (PD×Value)}{c:Int}(h:Cat w g M es)(e:Ext w w'):CatQ w g M es c (Am es) (.returned (.int .i64 c)) w':=
 ⟨rfl,es,rfl,h.ext e,Chg.of_ext e _,fun _ hk=>.inl hk⟩
theorem RefQ.stay {w w':World}{a:Option Addr}{n k:Nat}{rs:List (PD×Value)}{c:Int}(h:RefC w (.slice a n k) rs)(e:Ext w w'):RefQ w (.slice a n k) rs c (Am rs) (.returned (.tuple #[.agg #[.bool false,.slice a n k],.int .i64 c])) w':=
 ⟨_,_,_,rs,rfl,rfl,h.ext e,e,fun _ hk=>.inl hk⟩
theorem Sx {r:RD}(_hn:Co r.nm.data.toList=true)(hm:mayP r.kd r.co r.op r.oq=false):Nv r=none:=by
 unfold Nv;split
 ·rename_i x y hx hy
  rw [hx,hy] at hm;rw [hm,Bool.and_false];rfl
 ·rfl
theorem Ajo (r:RD)(p q:FV)(w:World)(g M:Nat)(es:List (PD×Value))(h:Cat w g M es)(h1:AnyF w (.agg #[.bool p.b1,.slice p.a1 p.n1 p.c1,.bool p.b2,.slice p.a2 p.n2 p.c2]) r.op)(h2:AnyF w (.agg #[.bool q.b1,.slice q.a1 q.n1 q.c1,.bool q.b2,.slice q.a2 q.n2 q.c2]) r.oq)(hs:r.nm.size≤9223372036854775807) :
  Calls Tryz.prog 17 #[.pointer (some ⟨g,0,none⟩),.agg #[.string r.nm,.int .u8 r.kd,.bool p.b1,.slice p.a1 p.n1 p.c1,.bool p.b2,.slice p.a2 p.n2 p.c2,.bool q.b1,.slice q.a1 q.n1 q.c1,.bool q.b2,.slice q.a2 q.n2 q.c2,.int .i64 r.co]] w (CatQ w g M es (putA r (Am es)).1 (putA r (Am es)).2):=by
 rcases Qq r with hn|⟨hn,hm⟩|⟨hn,x,y,hx,hy,hm,hgo⟩
 ·unfold putA
  rw [if_pos hn];refine (Ae1 p q r.nm r.kd r.co r.op r.oq w g M es h h1 h2 hs hn).mono ?_;rintro e w' ⟨rfl,hE⟩;exact CatQ.stay h hE
 ·unfold putA
  rw [if_neg (by rw [hn];decide),Sx hn hm];refine (Ahn p q r.nm r.kd r.co r.op r.oq w g M es h h1 h2 hs hn hm).mono ?_;rintro e w' ⟨rfl,hE⟩;exact CatQ.stay h hE
 ·unfold putA
  rw [if_neg (by rw [hn];decide),hgo];have hm':mayP r.kd r.co r.op r.oq=true:=by rw [hx,hy];exact hm
  cases hf:Ea r.nm (Am es) with
  | some z=>
   obtain ⟨v,hz⟩:=Hb rfl hf;refine (Aco p q r.nm r.kd r.co r.op r.oq w g M es h h1 h2 hs hn hm' _ hz).mono ?_;rintro e w' ⟨rfl,hE⟩;exact CatQ.stay h hE
  | none=>
   have hz:=Iw rfl hf;simp only [Option.isSome_none,Bool.false_eq_true,if_false];by_cases hl:64≤(Am es).length
   ·rw [if_pos hl]
    refine (Ae2 p q r.nm r.kd r.co r.op r.oq w g M es h h1 h2 hs hn hm' hz (by simpa using hl)).mono ?_;rintro e w' ⟨rfl,hE⟩;exact CatQ.stay h hE
   ·rw [if_neg hl]
    refine (Ai7 r p q w g M es h h1 h2 hs _ hgo hz (by simp at hl;omega)).mono ?_;rintro e w' ⟨rfl,v,hk,hc,ht⟩;refine ⟨rfl,_,Wx rfl,hc,ht,?_⟩;rintro k (hk'|hk'|⟨z,hz',hk'⟩)
    ·exact .inl (.inl hk')
    ·exact .inl (.inr (.inl hk'))
    ·rcases mem_insP.1 hz' with rfl|hz'
     ·exact .inr (hk.span k (Mr hk')).1
     ·exact .inl (.inr (.inr ⟨z,hz',hk'⟩))
theorem Ai1 (r:RD)(p q:FV)(w:World)(l:Value)(rs:List (PD×Value))(h:RefC w l rs)(h1:AnyF w (.agg #[.bool p.b1,.slice p.a1 p.n1 p.c1,.bool p.b2,.slice p.a2 p.n2 p.c2]) r.op)(h2:AnyF w (.agg #[.bool q.b1,.slice q.a1 q.n1 q.c1,.bool q.b2,.slice q.a2 q.n2 q.c2]) r.oq)(hs:r.nm.size≤9223372036854775807) :
  Calls Tryz.prog 16 #[.agg #[.bool false,l],.agg #[.string r.nm,.int .u8 r.kd,.bool p.b1,.slice p.a1 p.n1 p.c1,.bool p.b2,.slice p.a2 p.n2 p.c2,.bool q.b1,.slice q.a1 q.n1 q.c1,.bool q.b2,.slice q.a2 q.n2 q.c2,.int .i64 r.co]] w (RefQ w l rs (putA r (Am rs)).1 (putA r (Am rs)).2):=by
 obtain ⟨a,c,rfl,-⟩:=h.slice;rcases Qq r with hn|⟨hn,hm⟩|⟨hn,x,y,hx,hy,hm,hgo⟩
 ·unfold putA
  rw [if_pos hn];refine (Ace p q r.nm r.kd r.co r.op r.oq w a c rs h h1 h2 hs hn).mono ?_;rintro e w' ⟨rfl,hE⟩;exact RefQ.stay h hE
 ·unfold putA
  rw [if_neg (by rw [hn];decide),Sx hn hm];refine (Aen p q r.nm r.kd r.co r.op r.oq w a c rs h h1 h2 hs hn hm).mono ?_;rintro e w' ⟨rfl,hE⟩;exact RefQ.stay h hE
 ·unfold putA
  rw [if_neg (by rw [hn];decide),hgo];have hm':mayP r.kd r.co r.op r.oq=true:=by rw [hx,hy];exact hm
  cases hf:Ea r.nm (Am rs) with
  | some z=>
   obtain ⟨v,hz⟩:=Hb rfl hf;refine (Yy p q r.nm r.kd r.co r.op r.oq w a c rs h h1 h2 hs hn hm' _ hz).mono ?_;rintro e w' ⟨rfl,hE⟩;exact RefQ.stay h hE
  | none=>
   have hz:=Iw rfl hf;simp only [Option.isSome_none,Bool.false_eq_true,if_false];by_cases hl:64≤(Am rs).length
   ·rw [if_pos hl]
    refine (Acf p q r.nm r.kd r.co r.op r.oq w a c rs h h1 h2 hs hn hm' hz (by simpa using hl)).mono ?_;rintro e w' ⟨rfl,hE⟩;exact RefQ.stay h hE
   ·rw [if_neg hl]
    obtain ⟨-,-,-,hok,f1,f2⟩:=Sw h1 h2 hgo;refine (Ag5 p q ⟨r.nm,r.kd,x,y,r.co⟩ (.slice a rs.length c) rs w h f1 f2 hok hs hz (by simp at hl;omega)).mono ?_;rintro e w' ⟨l',v,rfl,hR,hl',hv,hE⟩;obtain ⟨a',c',rfl,-⟩:=hR.slice;refine ⟨_,_,_,_,rfl,Wx rfl,hR,hE,?_⟩;rintro k (hk|⟨z,hz',hk⟩)
    ·exact .inr (hl' k hk)
    ·rcases mem_insP.1 hz' with rfl|hz'
     ·exact .inr (hv k (Mr hk))
     ·exact .inl (.inr ⟨z,hz',hk⟩)
def Nw (s:ByteArray)(D:List PD):Int×List PD:=if (Ea s D).isSome then (0,Af4 s D) else (11,D)
theorem Ajh (s:ByteArray)(w:World)(g M:Nat)(es:List (PD×Value))(h:Cat w g M es)(hs:s.size≤9223372036854775807) :
  Calls Tryz.prog 20 #[.pointer (some ⟨g,0,none⟩),.string s] w (CatQ w g M es (Nw s (Am es)).1 (Nw s (Am es)).2):=by
 unfold Nw;cases hf:Ea s (Am es) with
 | some z=>
  obtain ⟨v,hz⟩:=Hb rfl hf;refine (Aid s w g M es h hs _ hz).mono ?_;rintro e w' ⟨rfl,hc,ht⟩;refine ⟨rfl,_,Te rfl,hc,ht,?_⟩;rintro k (hk|hk|⟨z,hz',hk⟩)
  ·exact .inl (.inl hk)
  ·exact .inl (.inr (.inl hk))
  ·exact .inl (.inr (.inr ⟨z,(List.mem_filter.1 hz').1,hk⟩))
 | none=>
  refine (Aie s w g M es h hs (Iw rfl hf)).mono ?_;rintro e w' ⟨rfl,hE⟩;exact CatQ.stay h hE
theorem Ahi (s:ByteArray)(w:World)(l:Value)(rs:List (PD×Value))(h:RefC w l rs) :
  Calls Tryz.prog 19 #[.agg #[.bool false,l],.string s] w (RefQ w l rs (Nw s (Am rs)).1 (Nw s (Am rs)).2):=by
 obtain ⟨a,c,rfl,-⟩:=h.slice;unfold Nw;cases hf:Ea s (Am rs) with
 | some z=>
  obtain ⟨v,hz⟩:=Hb rfl hf;refine (Aew s _ _ rs w h hz).mono ?_;rintro e w' ⟨l',rfl,hR,hl',hE⟩;obtain ⟨a',c',rfl,-⟩:=hR.slice;refine ⟨_,_,_,_,rfl,Te rfl,hR,hE,?_⟩;rintro k (hk|⟨z,hz',hk⟩)
  ·exact .inr (hl' k hk)
  ·exact .inl (.inr ⟨z,(List.mem_filter.1 hz').1,hk⟩)
 | none=>
  refine (Aex s _ rs w h (Iw rfl hf)).mono ?_;rintro e w' ⟨rfl,hE⟩;exact RefQ.stay h hE
def GotR (w:World)(p q:FV)(nm:ByteArray)(kd co:Int)(o:Option PD):Prop:=match o with
 | some d=>(nm=d.nm∧kd=d.kd∧co=d.co∧PartR w (.agg #[.string d.nm,.int .u8 d.kd,.bool p.b1,.slice p.a1 p.n1 p.c1,.bool p.b2,.slice p.a2 p.n2 p.c2,.bool q.b1,.slice q.a1 q.n1 q.c1,.bool q.b2,.slice q.a2 q.n2 q.c2,.int .i64 d.co]) d)∧okPD d
 | none=>nm=⟨#[]⟩∧kd=0∧co=0∧p=⟨false,none,0,0,false,none,0,0⟩∧q=⟨false,none,0,0,false,none,0,0⟩
theorem GotR.ext {w w':World}{p q:FV}{nm:ByteArray}{kd co:Int}{o:Option PD}(h:GotR w p q nm kd co o)(e:Ext w w'):GotR w' p q nm kd co o:=by
 cases o with
 | none=>exact h
 | some d=>exact ⟨⟨h.1.1,h.1.2.1,h.1.2.2.1,h.1.2.2.2.ext e⟩,h.2⟩
def GotK (lo:Nat)(w:World)(p q:FV)(nm:ByteArray)(kd co:Int)(o:Option PD):Prop:=GotR w p q nm kd co o∧∀ d,o=some d→PartK lo w (.agg #[.string d.nm,.int .u8 d.kd,.bool p.b1,.slice p.a1 p.n1 p.c1,.bool p.b2,.slice p.a2 p.n2 p.c2,.bool q.b1,.slice q.a1 q.n1 q.c1,.bool q.b2,.slice q.a2 q.n2 q.c2,.int .i64 d.co]) d
def AnswQ (w:World)(x:Value)(o:Option PD)(e:Ending)(w':World):Prop:=∃ p q nm kd co,e=.returned (.tuple #[.agg #[.string nm,.int .u8 kd,.bool p.b1,.slice p.a1 p.n1 p.c1,.bool p.b2,.slice p.a2 p.n2 p.c2,.bool q.b1,.slice q.a1 q.n1 q.c1,.bool q.b2,.slice q.a2 q.n2 q.c2,.int .i64 co],x])∧GotR w' p q nm kd co o∧Ext w w'
def AnswK (w:World)(x:Value)(o:Option PD)(e:Ending)(w':World):Prop:=∃ p q nm kd co,e=.returned (.tuple #[.agg #[.string nm,.int .u8 kd,.bool p.b1,.slice p.a1 p.n1 p.c1,.bool p.b2,.slice p.a2 p.n2 p.c2,.bool q.b1,.slice q.a1 q.n1 q.c1,.bool q.b2,.slice q.a2 q.n2 q.c2,.int .i64 co],x])∧GotK w.heap.size w' p q nm kd co o∧Ext w w'
def fv0:FV:=⟨false,none,0,0,false,none,0,0⟩
theorem AnswQ.some {w w':World}{x v:Value}{d:PD}(h:PartR w' v d)(hok:okPD d)(e:Ext w w'):AnswQ w x (some d) (.returned (.tuple #[v,x])) w':=by
 obtain ⟨p,q,rfl,h1,h2⟩:=h.fv;exact ⟨p,q,d.nm,d.kd,d.co,rfl,⟨⟨rfl,rfl,rfl,PartR.mk h1 h2⟩,hok⟩,e⟩
theorem AnswQ.none {w w':World}{x:Value}(e:Ext w w'):AnswQ w x none (.returned (.tuple #[zeroPart,x])) w':=
 ⟨fv0,fv0,⟨#[]⟩,0,0,rfl,⟨rfl,rfl,rfl,rfl,rfl⟩,e⟩
theorem AnswK.some {w w':World}{x v:Value}{d:PD}(h:PartK w.heap.size w' v d)(hok:okPD d)(e:Ext w w'):AnswK w x (some d) (.returned (.tuple #[v,x])) w':=by
 obtain ⟨p,q,rfl,h1,h2⟩:=h.r.fv;refine ⟨p,q,d.nm,d.kd,d.co,rfl,⟨⟨⟨rfl,rfl,rfl,PartR.mk h1 h2⟩,hok⟩,fun d' hd=>?_⟩,e⟩;cases hd;exact h
theorem AnswK.none {w w':World}{x:Value}(e:Ext w w'):AnswK w x none (.returned (.tuple #[zeroPart,x])) w':=
 ⟨fv0,fv0,⟨#[]⟩,0,0,rfl,⟨⟨rfl,rfl,rfl,rfl,rfl⟩,fun d hd=>by cases hd⟩,e⟩
theorem Ais (s:ByteArray)(w:World)(g M:Nat)(es:List (PD×Value))(h:Cat w g M es)(hs:s.size≤9223372036854775807) :
  Calls Tryz.prog 9 #[.pointer (some ⟨g,0,none⟩),.string s] w (AnswK w (.bool (Ea s (Am es)).isSome) (Ea s (Am es))):=by
 cases hf:Ea s (Am es) with
 | some z=>
  obtain ⟨v,hz⟩:=Hb rfl hf;refine (Ajf s w g M es h hs _ hz).mono ?_;rintro e w' ⟨v',rfl,hk,hE⟩;exact AnswK.some hk (h.ok _ (List.mem_of_find?_eq_some hz)) hE
 | none=>
  refine (Ajg s w g M es h hs (Iw rfl hf)).mono ?_;rintro e w' ⟨rfl,hE⟩;exact AnswK.none hE
theorem Ai3 (s:ByteArray)(w:World)(l:Value)(rs:List (PD×Value))(h:RefC w l rs) :
  Calls Tryz.prog 21 #[.agg #[.bool false,l],.string s] w (AnswQ w (.bool (Ea s (Am rs)).isSome) (Ea s (Am rs))):=by
 cases hf:Ea s (Am rs) with
 | some z=>
  obtain ⟨v,hz⟩:=Hb rfl hf;refine (Ahf s _ _ rs w h hz).mono ?_;rintro e w' ⟨rfl,hE⟩;have hm:=List.mem_of_find?_eq_some hz;exact AnswQ.some ((h.part _ hm).ext hE) (h.ok _ hm) hE
 | none=>
  refine (Ahg s _ rs w h (Iw rfl hf)).mono ?_;rintro e w' ⟨rfl,hE⟩;exact AnswQ.none hE
def Nt (o:Option Rat)(D:List PD):Int×Option PD:=match o with
 | none=>(1,none)
 | some x=>match Bn x none D with
  | none=>(11,none)
  | some d=>(0,some d)
theorem Wm {x:Rat}{es:List (PD×Value)}(hr:Rising es):Bn x none (Am es)=none↔(Am es).filter lensB=[]:=by
 have:=Mj x (Am es) hr.bef;rw [this];cases (Am es).filter lensB<;>simp
theorem Wl {x:Rat}{D:List PD}{d:PD}(hb:D.Pairwise (fun a b=>bef a b=true))(h:Bn x none D=some d):d∈D:=by
 have:=Fp x D none d h hb (fun b hb=>by cases hb);rcases this.2.1 with h1|h1
 ·exact h1
 ·cases h1
theorem Ai9 (pw:FV)(o:Option Rat)(w:World)(g M:Nat)(es:List (PD×Value))(h:Cat w g M es)(hp:AnyF w (.agg #[.bool pw.b1,.slice pw.a1 pw.n1 pw.c1,.bool pw.b2,.slice pw.a2 pw.n2 pw.c2]) o) :
  Calls Tryz.prog 24 #[.pointer (some ⟨g,0,none⟩),.agg #[.bool pw.b1,.slice pw.a1 pw.n1 pw.c1,.bool pw.b2,.slice pw.a2 pw.n2 pw.c2]] w (AnswK w (.int .i64 (Nt o (Am es)).1) (Nt o (Am es)).2):=by
 cases o with
 | none=>
  refine (Aff pw w g M es h hp).mono ?_;rintro e w' ⟨rfl,hE⟩;exact AnswK.none hE
 | some x=>
  unfold Nt;simp only;by_cases hne:(Am es).filter lensB=[]
  ·rw [(Wm h.map.rising).2 hne]
   refine (Ac2 pw x w g M es h hp hne).mono ?_;rintro e w' ⟨rfl,hE⟩;exact AnswK.none hE
  ·refine (Aht pw x w g M es h hp hne).mono ?_
   rintro e w' ⟨v,d,rfl,hd,hk,hE⟩;rw [show Bn x none (Am es)=some d from hd];refine AnswK.some hk ?_ hE;obtain ⟨z,hz,rfl⟩:=List.mem_map.1 (Wl h.map.rising.bef hd);exact h.ok _ hz
theorem Ag9 (pw:FV)(o:Option Rat)(w:World)(l:Value)(rs:List (PD×Value))(h:RefC w l rs)(hp:AnyF w (.agg #[.bool pw.b1,.slice pw.a1 pw.n1 pw.c1,.bool pw.b2,.slice pw.a2 pw.n2 pw.c2]) o) :
  Calls Tryz.prog 25 #[.agg #[.bool false,l],.agg #[.bool pw.b1,.slice pw.a1 pw.n1 pw.c1,.bool pw.b2,.slice pw.a2 pw.n2 pw.c2]] w (AnswQ w (.int .i64 (Nt o (Am rs)).1) (Nt o (Am rs)).2):=by
 cases o with
 | none=>
  obtain ⟨a,c,rfl,-⟩:=h.slice;refine (Aci pw a rs.length c w hp).mono ?_;rintro e w' ⟨rfl,hE⟩;exact AnswQ.none hE
 | some x=>
  unfold Nt;simp only;refine (Ag8 pw x l rs w h hp).mono ?_;rintro e w' ⟨hE,h1,h2⟩;cases hn:Bn x none (Am rs) with
  | none=>
   rw [h1 hn];exact AnswQ.none hE
  | some d=>
   obtain ⟨v,rfl,hv⟩:=h2 d hn;refine AnswQ.some hv ?_ hE;obtain ⟨z,hz,rfl⟩:=List.mem_map.1 (Wl h.ris.bef hn);exact h.ok _ hz
theorem Vt {w:World}{p q p' q':FV}{nm nm':ByteArray}{kd kd' co co':Int}{o:Option PD}(h:GotR w p q nm kd co o)(h':GotR w p' q' nm' kd' co' o) :
  Calls Tryz.prog 22 #[.agg #[.string nm,.int .u8 kd,.bool p.b1,.slice p.a1 p.n1 p.c1,.bool p.b2,.slice p.a2 p.n2 p.c2,.bool q.b1,.slice q.a1 q.n1 q.c1,.bool q.b2,.slice q.a2 q.n2 q.c2,.int .i64 co],.agg #[.string nm',.int .u8 kd',.bool p'.b1,.slice p'.a1 p'.n1 p'.c1,.bool p'.b2,.slice p'.a2 p'.n2 p'.c2,.bool q'.b1,.slice q'.a1 q'.n1 q'.c1,.bool q'.b2,.slice q'.a2 q'.n2 q'.c2,.int .i64 co']] w fun e w'=>e=.returned (.bool true)∧Ext w w':=by
 cases o with
 | none=>
  obtain ⟨rfl,rfl,rfl,rfl,rfl⟩:=h;obtain ⟨rfl,rfl,rfl,rfl,rfl⟩:=h';refine (Pc ⟨#[]⟩ ⟨#[]⟩ 0 0 0 0 false none [] 0 false none [] 0 false none [] 0 false none [] 0 false none [] 0 false none [] 0 false none [] 0 false none [] 0 w (RawL.zero w) (RawL.zero w) (RawL.zero w) (RawL.zero w)).mono ?_;rintro e w' ⟨rfl,hx⟩;exact ⟨by simp [eqI],hx⟩
 | some d=>
  obtain ⟨⟨rfl,rfl,rfl,h1⟩,hok⟩:=h;obtain ⟨⟨rfl,rfl,rfl,h2⟩,-⟩:=h';exact Jc _ _ d w h1 h2 hok.1 hok.2.1
theorem TwG.twf {w:World}{g1 g2:Nat}{l1 l2:List Nat}(t1:TwG w g1 l1)(t2:TwG w g2 l2)(b1 b2:Bool):TwF w (.agg #[.bool b1,.slice (some ⟨g1,0,none⟩) l1.length (l1.length+1),.bool b2,.slice (some ⟨g2,0,none⟩) l2.length (l2.length+1)]) b1 l1 b2 l2:=
 ⟨_,_,_,_,rfl,t1.twin b1,t2.twin b2⟩
def many (n:Nat)(c:List Value):List Value:=(List.replicate n c).flatten
theorem Ml (n:Nat)(c:List Value):many (n+1) c=c++many n c:=by simp [many,List.replicate_succ]
theorem Gc (n:Nat)(c:List Value):(many n c).length=n*c.length:=by
 induction n with
 | zero=>simp [many]
 | succ n ih=>rw [Ml,List.length_append,ih,Nat.succ_mul];omega
theorem Ws (n m:Nat)(c:List Value):many (n+m) c=many n c++many m c:=by
 unfold many;rw [←List.flatten_append,List.replicate_append_replicate]
theorem So (n:Nat)(c:List Value):many (n+1) c=many n c++c:=by
 rw [Ws];simp [many]
theorem Ac5 (n q:Nat)(c:List Value):(many (n+q) c).take (n*c.length)=many n c:=by
 rw [Ws,←Gc];exact List.take_left
theorem Wr (c:List Value):∀ (n k j:Nat),k<n→j<c.length→(many n c)[k*c.length+j]? = c[j]?
 | 0,k,j,hk,_=>by omega
 | n+1,0,j,_,hj=>by
  rw [Ml,Nat.zero_mul,Nat.zero_add,List.getElem?_append_left hj]
 | n+1,k+1,j,hk,hj=>by
  have e:(k+1)*c.length+j=c.length+(k*c.length+j):=by rw [Nat.succ_mul];omega
  rw [Ml,e,List.getElem?_append_right (Nat.le_add_right _ _),Nat.add_sub_cancel_left]
  exact Wr c n k j (by omega) hj
def ListsW (base E sz:Nat)(w:World)(es:List Ent):Prop:=∀ i (h:i<es.length),∃ xs,w.ownsRow base E sz es[i].l es[i].len xs
def MarkedW (base E sz:Nat)(mk:Int→List Value)(w:World)(es:List Ent)(k:Nat):Prop:=∀ i (h:i<es.length),i<k→w.ownsRow base E sz es[i].l es[i].len (many es[i].len (mk es[i].n))
def Ji (base E sz:Nat)(mk:Int→List Value)(w wr:World)(es:List Ent)(k:Nat):Prop:=Chg w wr (Blocks es)∧MarkedW base E sz mk wr es k∧ListsW base E sz wr es
theorem Xk {base E sz:Nat}{mk:Int→List Value}{w:World}{es:List Ent}(h:ListsW base E sz w es):Ji base E sz mk w w es 0:=
 ⟨Chg.refl _ _,fun _ _ h=>absurd h (Nat.not_lt_zero _),h⟩
theorem Aaf {base E sz:Nat}{mk:Int→List Value}{w wr W1 W:World}{es:List Ent}{k:Nat}(h:Ji base E sz mk w wr es k)(hk:k<es.length)(hd:Distinct es)(he:Ext wr W1)(hg:W1.grownBy W es[k].l.ownBlock)
  (ho:W.ownsRow base E sz es[k].l es[k].len (many es[k].len (mk es[k].n))):Ji base E sz mk w W es (k+1):=by
 obtain ⟨h1,h2,h3⟩:=h;have hc:Chg wr W (fun g=>some g=es[k].l.ownBlock):=(Chg.of_ext he _).trans (Chg.grown hg)
 have hne:∀ i (hi:i<es.length),i≠k→∀ g,es[i].l.ownBlock=some g→¬some g=es[k].l.ownBlock:=by
  intro i hi hik g hg1 hg2;rcases hd i k hi hk hik with h|h
  ·rw [h] at hg1;cases hg1
  ·exact h (hg1.trans hg2)
 refine ⟨h1.trans (hc.mono fun g _ hg=>⟨k,hk,hg.symm⟩),fun i hi hlt=>?_,fun i hi=>?_⟩
 ·by_cases e:i=k
  ·subst e;exact ho
  ·exact hc.row (h2 i hi (by omega)) (hne i hi e)
 ·by_cases e:i=k
  ·subst e;exact ⟨_,ho⟩
  ·obtain ⟨xs,hx⟩:=h3 i hi
   exact ⟨xs,hc.row hx (hne i hi e)⟩
def Ex (c xs:List Value)(k:Nat):List Value:=many k c++xs.drop (k*c.length)
theorem Zh (c xs:List Value):Ex c xs 0=xs:=by simp [Ex,many]
theorem Acw (c xs:List Value)(n:Nat)(h:xs.length=n*c.length):Ex c xs n=many n c:=by simp [Ex,←h]
theorem Acv (c xs:List Value)(k:Nat):(Ex c xs k).take (k*c.length)++c++(Ex c xs k).drop (k*c.length+c.length)=Ex c xs (k+1):=by
 have e1:(Ex c xs k).take (k*c.length)=many k c:=by
  unfold Ex;rw [←Gc];exact List.take_left
 have e2:(Ex c xs k).drop (k*c.length+c.length)=xs.drop (k*c.length+c.length):=by
  unfold Ex;rw [←List.drop_drop,←Gc,List.drop_left,List.drop_drop]
 rw [e1,e2];unfold Ex;rw [So,Nat.succ_mul]
theorem Wi {w:World}{base E sz n cap g:Nat}{xs cs:List Value}(h:w.ownsRow base E sz (.slice (some ⟨g,0,none⟩) n cap) n xs)(k:Nat)(hk:k<n)(hc:cs.length=sz) :
  ∃ cur,w.heap[g]? = some (.cells cur E (0,0))∧k*sz+sz≤cur.size ∧
   (w.setRow g (cur.toList.take (k*sz)++cs++cur.toList.drop (k*sz+sz)).toArray).ownsRow base E sz (.slice (some ⟨g,0,none⟩) n cap) n (xs.take (k*sz)++cs++xs.drop (k*sz+sz)) ∧
   w.grownBy (w.setRow g (cur.toList.take (k*sz)++cs++cur.toList.drop (k*sz+sz)).toArray) (some g):=by
 rcases h.2 with ⟨x,_⟩|⟨g',cap',cur,x,b1,b2,b3,b4,b5,b6⟩
 ·cases x
 ·simp only [Value.slice.injEq,Option.some.injEq,Addr.mk.injEq,and_true,true_and] at x
  obtain ⟨rfl,rfl⟩:=x
  have hm:k*sz+sz≤n*sz:=by
   have:=Nat.mul_le_mul_right sz (show k+1≤n by omega);rw [Nat.succ_mul] at this;exact this
  have hm2:n*sz≤cur.size:=by rw [b5];exact Nat.mul_le_mul_right _ b3
  have hx:xs.length=n*sz:=h.1;refine ⟨cur,b2,by omega,⟨by simp [List.length_take];omega,.inr ⟨g,cap,_,rfl,b1,setRow_heap w g cur _ E _ b2,b3,b4,by simp [List.length_take];omega,?_⟩⟩,⟨rfl,rfl,rfl,by simp [World.setRow],fun j hj hn=>?_⟩⟩
  ·rw [←b6]
   apply List.ext_getElem?
   intro i;have hcl:cur.toList.length=cur.size:=by simp
   simp only [List.getElem?_take,List.getElem?_append,List.getElem?_drop,List.length_append,List.length_take,hc,hcl,Nat.min_eq_left (show k*sz≤cur.size by omega),Nat.min_eq_left (show n*sz≤cur.size by omega),Nat.min_eq_left (show k*sz≤n*sz by omega)];repeat' split
   all_goals first|rfl|omega
  ·have:g≠j:=fun e=>hn (by rw [e])
   simp [World.setRow,Array.getElem?_modify,this]
def Rk (base E sz:Nat)(c:List Value)(W1 W2:World)(l:Value)(len:Nat)(v:Value)(q:Nat):Prop:=
 W1.grownBy W2 l.ownBlock∧W2.ownsRow base E sz v (len+q) (many (len+q) c)∧W2.ownsRow base E sz l len (many len c) ∧
  ((∃ g cap,l=.slice (some ⟨g,0,none⟩) len cap∧v=.slice (some ⟨g,0,none⟩) (len+q) cap)∨∀ b,v.ownBlock=some b→W1.heap.size≤b)
theorem Uq {base E sz:Nat}{c:List Value}{W1:World}{l:Value}{len:Nat}(h:W1.ownsRow base E sz l len (many len c)):Rk base E sz c W1 W1 l len l 0:=by
 refine ⟨World.grownBy.refl _ _,h,h,?_⟩;rcases h.2 with ⟨rfl,rfl⟩|⟨g,cap,cur,rfl,_⟩
 ·exact .inr fun b hb=>by cases hb
 ·exact .inl ⟨g,cap,rfl,rfl⟩
theorem Xb {P:Program}{base:Nat}{c:List Value}{W1 W2 W:World}{l:Value}{len:Nat}{v:Value}{q:Nat}{t ty E:TypeId}{i:TypeInfo}{z:Value}{sz bytes:Nat}(ht:P.underlying t=some (.slice E))(hi:P.info? E=some i)(hz:i.zero=some z)
  (hsize:i.size=sz) (hby:i.bytes=bytes) (hzs:z.cells.size=sz) (hsz:0<sz) (hcl:c.length=sz) (hm:∀ u∈c,u.oneCell'=true) (h:Rk base E sz c W1 W2 l len v q) (hE:Ext W2 W) (hl:∀ g,l.ownBlock=some g→g<W1.heap.size) (hb:base≤W1.heap.size)
  (b:Nat) (hbb:W.heap[b]? = some (.cells c.toArray E)) (hlen:len+q+1≤1073741824) (hbytes:bytes≤65536) :
  ∃ v' w',(Builtin.append_ #[t,t] ty #[v,.slice (some ⟨b,0,none⟩) 1 1]).run P W=.ok v' w'∧Rk base E sz c W1 w' l len v' (q+1):=by
 obtain ⟨h1,h2,h3,h4⟩:=h;have hx2:W.ownsRow base E sz v (len+q) (many (len+q) c):=Aw h2 hE;have hx3:W.ownsRow base E sz l len (many len c):=Aw h3 hE;have hs1:=h1.size;have hs2:=hE.size
 obtain ⟨v',w',r1,r2,r3⟩:=Kn (P:=P) W base t ty E i z sz bytes ht hi hz hsize hby hzs hsz v (len+q) _ hx2 ⟨b,0,none⟩ 1 1 c (by omega)
  (fun j u hu=>by
   have hadd:(⟨b,0,none⟩:Addr).add j=⟨b,j,none⟩:=by unfold Addr.add;split<;>simp_all
   rw [hadd,cell_of_row W b j _ E (0,0) hbb]
   simpa using hu) hm (by unfold maxLen;omega) (by
   have:(len+q+1)*bytes≤1073741824*65536:=Nat.mul_le_mul (by omega) hbytes
   omega) (by omega) (by omega)
 rw [←So] at r2;have e1:len+q+1=len+(q+1):=rfl;rw [e1] at r2 r3;refine ⟨v',w',r1,?_⟩;rcases r3 with ⟨g',cap',rfl,rfl,r4⟩|⟨r4,r5⟩
 ·rcases h4 with ⟨g,cap,rfl,he⟩|h4
  ·simp only [Value.slice.injEq,Option.some.injEq,Addr.mk.injEq,and_true,true_and] at he
   obtain ⟨rfl,rfl⟩:=he;refine ⟨Fc h1 hE r4,r2,?_,.inl ⟨g',cap',rfl,rfl⟩⟩;refine ⟨by rw [Gc,hcl],.inr ?_⟩;rcases r2.2 with ⟨x,_⟩|⟨g,cap,cur,x,b1,b2,b3,b4,b5,b6⟩
   ·cases x
   ·simp only [Value.slice.injEq,Option.some.injEq,Addr.mk.injEq,and_true,true_and] at x
    obtain ⟨rfl,rfl⟩:=x;refine ⟨g',cap',cur,rfl,b1,b2,by omega,b4,b5,?_⟩;have:=congrArg (List.take (len*sz)) b6;rw [List.take_take,Nat.min_eq_left (Nat.mul_le_mul_right _ (by omega))] at this;rw [this];subst hcl;exact Ac5 len (q+1) c
  ·have hg:=h4 g' rfl
   refine ⟨?_,r2,hx3.kept r4 ?_,.inr fun b hb=>?_⟩
   ·exact ⟨r4.os.trans (hE.os.trans h1.os),r4.tape.trans (hE.tape.trans h1.tape),r4.output.trans (hE.output.trans h1.output),nT h1.size (nT hE.size r4.size),
     fun k hk hn=>(r4.block k (by omega) (by simp;omega)).trans ((hE.block k (by omega)).trans (h1.block k hk hn))⟩
   ·cases hlb:l.ownBlock with
    | none=>exact .inl rfl
    | some b=>exact .inr (by have:=hl b hlb;simp;omega)
   ·have:g'=b:=by simpa [Value.ownBlock] using hb
    omega
 ·refine ⟨?_,r2,hx3.kept r5 ?_,.inr fun b hb=>?_⟩
  ·exact ⟨r5.os.trans (hE.os.trans h1.os),r5.tape.trans (hE.tape.trans h1.tape),r5.output.trans (hE.output.trans h1.output),nT h1.size (nT hE.size r5.size),
    fun k hk hn=>(r5.block k (by omega) (by simp)).trans ((hE.block k (by omega)).trans (h1.block k hk hn))⟩
  ·cases l.ownBlock<;>simp
  ·rw [r4] at hb
   have:W.heap.size=b:=by simpa using hb
   omega
def GrowIW (base E sz:Nat)(mk:Int→List Value)(w wr:World)(hb:Nat)(es:List Ent)(k:Nat):Prop:=
 Chg w wr (fun g=>Blocks es g∨g=hb)∧MarkedW base E sz mk wr es es.length∧Holds wr hb es ∧
  ∀ i (h:i<es.length),i<k→∃ v,wr.cell? ⟨hb,i*3+1,none⟩=some v∧wr.ownsRow base E sz v (es[i].len+70) (many (es[i].len+70) (mk es[i].n))∧∀ b,v.ownBlock=some b→es[i].l.ownBlock=some b∨w.heap.size≤b
def LookIW (base E sz:Nat)(mk:Int→List Value)(w wr:World)(hb:Nat)(es:List Ent)(k:Nat):Prop:=
 MarkedW base E sz mk wr es es.length∧Holds wr hb es ∧
  ∀ i (h:i<es.length),i<k→∃ v,wr.cell? ⟨hb,i*3+1,none⟩=some v∧wr.ownsRow base E sz v (es[i].len+70) (many (es[i].len+70) (mk es[i].n))∧∀ b,v.ownBlock=some b→es[i].l.ownBlock=some b∨w.heap.size≤b
theorem GrowIW.look {base E sz:Nat}{mk:Int→List Value}{w wr:World}{hb:Nat}{es:List Ent}{k:Nat}(h:GrowIW base E sz mk w wr hb es k):LookIW base E sz mk w wr hb es k:=h.2
theorem LookIW.ext {base E sz:Nat}{mk:Int→List Value}{w wr w':World}{hb:Nat}{es:List Ent}{k:Nat}(h:LookIW base E sz mk w wr hb es k)(e:Ext wr w'):LookIW base E sz mk w w' hb es k:=by
 obtain ⟨h1,h2,h3⟩:=h;have c:=Chg.of_ext e (fun _=>False);refine ⟨fun i hi hik=>c.row (h1 i hi hik) fun g hg hS=>hS,h2.chg c (fun hS=>hS),fun i hi hik=>?_⟩;obtain ⟨v,v1,v2,v3⟩:=h3 i hi hik;exact ⟨v,c.cell v1 (fun hS=>hS),c.row v2 fun g hg hS=>hS,v3⟩
theorem MarkedW.chg {base E sz:Nat}{mk:Int→List Value}{w w':World}{es:List Ent}{k:Nat}{S:Nat→Prop}(h:MarkedW base E sz mk w es k)(c:Chg w w' S)(hs:∀ g,S g→¬Blocks es g):MarkedW base E sz mk w' es k:=
 fun i hi hik=>c.row (h i hi hik) fun g hg hS=>hs g hS ⟨i,hi,hg⟩
theorem ListsW.chg {base E sz:Nat}{w w':World}{es:List Ent}{S:Nat→Prop}(h:ListsW base E sz w es)(c:Chg w w' S)(hs:∀ g,S g→¬Blocks es g):ListsW base E sz w' es:=fun i hi=>by
 obtain ⟨xs,hx⟩:=h i hi
 exact ⟨xs,c.row hx fun g hg hS=>hs g hS ⟨i,hi,hg⟩⟩
theorem Ur {base E sz:Nat}{mk:Int→List Value}{w:World}{hb:Nat}{es:List Ent}(h1:MarkedW base E sz mk w es es.length)(h2:Holds w hb es):GrowIW base E sz mk w w hb es 0:=
 ⟨Chg.refl _ _,h1,h2,fun _ _ h=>absurd h (Nat.not_lt_zero _)⟩
theorem Xd {base E sz:Nat}{mk:Int→List Value}{w wr W1 W2:World}{hb:Nat}{es:List Ent}{k:Nat}{v:Value}(h:GrowIW base E sz mk w wr hb es k)(hk:k<es.length)(hd:Distinct es)
  (hhb:hb<w.heap.size) (hnb:¬Blocks es hb) (hB:∀ g,Blocks es g→g<w.heap.size) (he:Ext wr W1) (hg:Rk base E sz (mk es[k].n) W1 W2 es[k].l es[k].len v 70) :
  GrowIW base E sz mk w (W2.setCell ⟨hb,k*3+1,none⟩ v) hb es (k+1):=by
 obtain ⟨h1,h2,h3,h4⟩:=h;obtain ⟨g1,g2,g3,g4⟩:=hg;have hc:Chg wr W2 (fun g=>some g=es[k].l.ownBlock):=(Chg.of_ext he _).trans (Chg.grown g1)
 have hc3:Chg W2 (W2.setCell ⟨hb,k*3+1,none⟩ v) (fun g=>g=hb):=
  ⟨rfl,rfl,rfl,by simp,fun j _ hj=>heap_setCell_other W2 ⟨hb,k*3+1,none⟩ j v (fun e=>hj e)⟩
 have hs:=h1.size;have hs2:=hc.size;have hs3:=he.size
 have hne:∀ i (hi:i<es.length),i≠k→∀ g,es[i].l.ownBlock=some g→¬some g=es[k].l.ownBlock:=by
  intro i hi hik g hg1 hg2;rcases hd i k hi hk hik with h|h
  ·rw [h] at hg1;cases hg1
  ·exact h (hg1.trans hg2)
 have hkb:¬(some hb=es[k].l.ownBlock):=fun e=>hnb ⟨k,hk,e.symm⟩;have hH2:=h3.chg hc hkb
 have hoff:∀ i r,i<es.length→r<3→(r≠1∨i≠k)→∀ u,W2.cell? ⟨hb,i*3+r,none⟩=some u→(W2.setCell ⟨hb,k*3+1,none⟩ v).cell? ⟨hb,i*3+r,none⟩=some u:=by
  intro i r _ hr hir u hu;rw [World.cell?_setCell_other]
  ·exact hu
  ·intro e
   have:k*3+1=i*3+r:=congrArg Addr.off e;omega
 have hvk:(W2.setCell ⟨hb,k*3+1,none⟩ v).cell? ⟨hb,k*3+1,none⟩=some v:=by
  obtain ⟨_,⟨a,n,c,hx⟩,_⟩:=hH2 k hk;exact World.cell?_setCell_same (h:=hx) ..
 have hvb:∀ b,v.ownBlock=some b→es[k].l.ownBlock=some b∨w.heap.size≤b:=by
  intro b hb';rcases g4 with ⟨g,cap,hl,rfl⟩|g4
  ·left
   rw [hl];exact hb'
  ·right
   have:=g4 b hb';omega
 have hvs:∃ a n c,v=.slice a n c:=by
  rcases g2.2 with ⟨e,_⟩|⟨g,cap,cur,e,_⟩
  ·exact ⟨_,_,_,e⟩
  ·exact ⟨_,_,_,e⟩
 refine ⟨((h1.trans (hc.mono fun g _ hg=>.inl ⟨k,hk,hg.symm⟩)).trans (hc3.mono fun g _ hg=>.inr hg)),fun i hi _=>?_,fun i hi=>?_,fun i hi hik=>?_⟩
 ·refine hc3.row ?_ (fun g hg e=>hnb ⟨i,hi,by rw [←e];exact hg⟩)
  by_cases e:i=k
  ·subst e;exact g3
  ·exact hc.row (h2 i hi hi) (hne i hi e)
 ·obtain ⟨x1,⟨a,n,c,x2⟩,x3,x4⟩:=hH2 i hi
  refine ⟨hoff i 0 hi (by omega) (by omega) _ x1,?_,hoff i 2 hi (by omega) (by omega) _ x3,by rw [World.frozen?_setCell];exact x4⟩;by_cases e:i=k
  ·subst e
   obtain ⟨a,n,c,rfl⟩:=hvs;exact ⟨a,n,c,hvk⟩
  ·exact ⟨a,n,c,hoff i 1 hi (by omega) (by omega) _ x2⟩
 ·by_cases e:i=k
  ·subst e
   refine ⟨v,hvk,hc3.row g2 (fun g hg e=>?_),hvb⟩;rcases hvb g hg with h|h
   ·exact hnb ⟨i,hi,by rw [←e];exact h⟩
   ·omega
  ·obtain ⟨u,u1,u2,u3⟩:=h4 i hi (by omega)
   refine ⟨u,hoff i 1 hi (by omega) (by omega) _ (hc.cell u1 hkb),hc3.row (hc.row u2 fun g hg he=>?_) (fun g hg he=>?_),u3⟩
   ·rcases u3 g hg with h|h
    ·exact hne i hi e g h he
    ·have:=hB g ⟨k,hk,he.symm⟩
     omega
   ·rcases u3 g hg with h|h
    ·exact hnb ⟨i,hi,by rw [←he];exact h⟩
    ·omega
end Go.Proofs.YteogdoglboddhaaGreatDoor
namespace Go.Proofs.YteogdoglboddhaaGreatDoor
set_option maxRecDepth 100000
open Go Go.RowKit Go.Proofs Go.Lib
def Fs (n:Nat):ByteArray:=⟨#[35]⟩++⟨(decDigits n).toArray⟩
theorem Abs (n:Nat)(w:World)(hn:n≤1000000)(ht:Tab10 w):Calls Tryz.prog 192 #[.int .i64 n] w fun e w'=>e=.returned (.string (Fs n))∧Ext w w':=by
 have K:=mK (Zx n w (by omega) ht);have hl:(⟨(decDigits n).toArray⟩:ByteArray).size≤32:=Fh (by omega);unfold Fs;obtain ⟨D,hD⟩:∃ D:ByteArray,D=⟨(decDigits n).toArray⟩:=⟨_,rfl⟩
 rw [←hD] at K hl ⊢;clear hD;have L1:¬9223372036854775807<1+D.size:=by omega
 have M1:1+D.size≤9223372036854775807:=by omega
 clear hl ht;go_enter Tryz.func192,Tryz.ntmps192;go_wp2_with (go_at_call 112;refine K.out.mono ?_;rintro e w2 ⟨rfl,h2⟩);go_ret;exact ⟨rfl,h2⟩
def mkP (n:Nat):Array Value:=#[.string (Fs n),.int .u8 0,.bool false,.slice none 0 0,.bool false,.slice none 0 0,.bool false,.slice none 0 0,.bool false,.slice none 0 0,.int .i64 0]
def mkPL (n:Int):List Value:=(mkP n.toNat).toList
theorem Pz (n:Nat)(w:World)(hn:n≤1000000)(ht:Tab10 w):Calls Tryz.prog 133 #[.int .i64 n] w fun e w'=>e=.returned (.agg (mkP n))∧Ext w w':=by
 obtain ⟨wb,hwb⟩:=nmE (w.alloc (.cells #[.string ⟨#[]⟩,.int .u8 0,.bool false,.slice none 0 0,.bool false,.slice none 0 0,.bool false,.slice none 0 0,.bool false,.slice none 0 0,.int .i64 0] 58));have hE:=aLe1 hwb;have zR:=mK (aL10 hwb);have K:=mK (Abs n wb hn (Cx ht hE));unfold mkP;obtain ⟨M,hM⟩:=nmE (Fs n);rw [←hM] at K ⊢;replace hE:=mK hE;replace hwb:=mK hwb;clear ht hM hn;go_enter Tryz.func133,Tryz.ntmps133;have tok:Tok 0:=.mk _
 go_wp2_with (first
  | (replace tok:Tok 1:=nxT 0 tok;go_at_call 192;rw [←hwb.out];refine K.out.mono ?_;rintro e w2 ⟨rfl,h2⟩;(have zR2:=mK (h2.blk zR.out));replace h2:=mK h2)
  | (replace tok:Tok 2:=nxT 1 tok;refine wpList_store_row rfl 58 (.tmp 2) (.tmp 5) rfl w.heap.size #[.string M,.int .u8 0,.bool false,.slice none 0 0,.bool false,.slice none 0 0,.bool false,.slice none 0 0,.bool false,.slice none 0 0,.int .i64 0] rfl rfl 58 _ zR2.out (by kernel_rfl) rfl (by kernel_rfl) ?_))
 exact bodyPost_ret (results_cell_row rfl _ _ w.heap.size 58 #[.string M,.int .u8 0,.bool false,.slice none 0 0,.bool false,.slice none 0 0,.bool false,.slice none 0 0,.bool false,.slice none 0 0,.int .i64 0] (0,0) _ rfl (setRow_heap _ _ _ _ _ _ zR2.out) Tryz.underlying58 rfl (by kernel_rfl)) rfl ⟨rfl,(hE.out.trans h2.out).row (nR _) _⟩
theorem Afs (n:Nat)(w:World)(hn:n≤1000000)(ht:Tab10 w):Calls Tryz.prog 149 #[.agg (mkP n),.int .i64 n] w fun e w'=>e=.returned (.bool true)∧Ext w w':=by
 unfold mkP;have K:=mK (fun W (e:Ext w W)=>Abs n W hn (Cx ht e));obtain ⟨M,hM⟩:=nmE (Fs n);rw [←hM] at K ⊢;obtain ⟨wb,hwb⟩:=nmE (w.alloc (.cells #[.string M,.int .u8 0,.bool false,.slice none 0 0,.bool false,.slice none 0 0,.bool false,.slice none 0 0,.bool false,.slice none 0 0,.int .i64 0] 58));have hE:=mK (aLe1 hwb);have z:=mK (aL10 hwb);have c0:=mK (fun W (e:Ext wb W)=>show W.cell? ⟨w.heap.size,0,none⟩=some (.string M) from Aa (e.blk z.out) 0);have c10:=mK (fun W (e:Ext wb W)=>show W.cell? ⟨w.heap.size,10,none⟩=some (.int .i64 0) from Aa (e.blk z.out) 10);clear ht hM hn;go_enter Tryz.func149,Tryz.ntmps149;go_wp2_with fail;rw [←hwb];clear hwb;apply Ad [.val (.pointer (some ⟨w.heap.size,0,none⟩)),.val (.string M),.val (.int .i64 n),.val (.string M),.val (.bool true),.val (.bool true),.val (.pointer (some ⟨w.heap.size,10,none⟩)),.val (.int .i64 0),.val (.bool true),.val (.bool true)] (by kernel_rfl) (stable_vals _ (stable_vals _ (stable_vals _ (stable_vals _ (stable_vals _ (stable_vals _ (stable_vals _ (stable_vals _ (stable_vals _ (stable_vals _ trivial))))))))));refine ⟨fun W hW _=>by go_simp;first|exact ⟨xR _,rfl⟩|exact xR _,?_⟩;refine ⟨fun W hW _=>by have c0:=c0.out W hW;go_simp;first|exact ⟨xR _,rfl⟩|exact xR _,?_⟩;refine ⟨fun W hW _=>by go_simp;first|exact ⟨xR _,rfl⟩|exact xR _,?_⟩;refine ⟨fun W hW _=>by go_simp;exact (K.out W (hE.out.trans hW)).mono (by rintro e w' ⟨rfl,hx⟩;exact ⟨rfl,hx⟩),?_⟩;iterate 3 (refine ⟨fun W hW _=>by go_simp;first|exact ⟨xR _,rfl⟩|exact xR _,?_⟩)
 refine ⟨fun W hW _=>by have c10:=c10.out W hW;go_simp;first|exact ⟨xR _,rfl⟩|exact xR _,?_⟩;iterate 2 (refine ⟨fun W hW _=>by go_simp;first|exact ⟨xR _,rfl⟩|exact xR _,?_⟩)
 intro W hW _;replace hE:=mK (hE.out.trans hW);clear hW c0 c10 K;go_simp;go_wp2_with fail;go_ret;exact ⟨rfl,hE.out⟩
theorem En {w:World}{base E sz n:Nat}{v:Value}{xs:List Value}(h:w.ownsRow base E sz v n xs):∃ a c,v=.slice a n c∧n≤c∧c≤9223372036854775807∧xs.length=n*sz∧(0<n→∃ g,a=some ⟨g,0,none⟩):=by
 rcases h.2 with ⟨e,h0⟩|⟨g,cap,cur,e,a2,a3,a4,a5,a6,a7⟩
 ·exact ⟨none,0,by rw [e,h0],by omega,by omega,h.1,fun hn=>by omega⟩
 ·exact ⟨_,cap,e,a4,by simp only [maxLen] at a5;omega,h.1,fun _=>⟨g,rfl⟩⟩
theorem Ns {w:World}{base E n c:Nat}{a:Option Addr}{cs:List Value}(h:w.ownsRow base E cs.length (.slice a n c) n (many n cs)){q:Nat}(hq:q<n):∃ g,a=some ⟨g,0,none⟩∧w.rangeAt g (q*cs.length) cs:=by
 rcases h.2 with ⟨e,h0⟩|⟨g,cap,cur,e,a2,a3,a4,a5,a6,a7⟩
 ·omega
 ·simp only [Value.slice.injEq,true_and] at e
  obtain ⟨rfl,rfl⟩:=e;refine ⟨g,rfl,fun j v hv=>?_⟩;have hj:=(List.getElem?_eq_some_iff.1 hv).1;have hm:=Wr cs n q j hq hj;rw [hv,←a7,List.getElem?_take] at hm;split at hm
  ·rw [cell_of_row w g _ cur E (0,0) a3]
   simpa using hm
  ·cases hm
theorem Le (n:Int):(mkPL n).length=11:=rfl
theorem Ahy (n:Int):∀ u∈mkPL n,u.oneCell'=true:=by
 intro u hu;simp only [mkPL,mkP,List.mem_cons,List.not_mem_nil,or_false] at hu;rcases hu with rfl|rfl|rfl|rfl|rfl|rfl|rfl|rfl|rfl|rfl|rfl<;>rfl
theorem Ab3:Tryz.prog.underlying 26=some (.slice 58):=by kernel_rfl
theorem Aag (w0:World)(bk hb cap base:Nat)(es:List Ent)(w:World)(ht:Tab10 w0)(hE0:Ext w0 w)(hlo:∀ g,Blocks es g→w0.heap.size≤g)(h:w.cell? ⟨bk,12,none⟩=some (.slice (some ⟨hb,0,none⟩) es.length cap))(h2:es.length≤1000000)
 (hH:Holds w hb es) (hL:ListsW base 58 11 w es) (hD:Distinct es) (hb1:¬Blocks es bk) (hb2:¬Blocks es hb) (hn:∀ i (h:i<es.length),es[i].n≤1000000∧es[i].len≤1000000) :
 Calls Tryz.prog 46 #[.pointer (some ⟨bk,0,none⟩)] w fun e w'=>e=.returned (.tuple #[])∧Ji base 58 11 mkPL w w' es es.length:=by
 have hst:=mK (Xk (mk:=mkPL) hL);have hT:=mK (fun wr (c:Chg w wr (Blocks es))=>(c.ext w0 hE0 fun k hk hB=>by have:=hlo k hB;omega));replace hb1:=mK hb1;replace hb2:=mK hb2;replace hH:=mK hH;replace hD:=mK hD;replace hn:=mK hn;replace hL:=mK hL;replace ht:=mK ht;have hlo2:=mK (fun k (hk:k<es.length) g (hg:es[k].l.ownBlock=some g)=>hlo g ⟨k,hk,hg⟩);clear hlo hE0;go_enter Tryz.func46,Tryz.ntmps46;go_wp2_with fail;go_loopw [2] (fun i wr=>∃ k:Nat,k≤es.length∧i=.int .i64 k∧Ji base 58 11 mkPL w wr es k) (fun i _=>es.length-(intOf i).toNat)
 case atStart=>exact ⟨0,Nat.zero_le _,rfl,hst.out⟩
 case round=>
  obtain ⟨k,hk,rfl,hfi⟩:=hrel;have hbk:=hfi.1.cell h hb1.out;have hE0r:=mK (hT.out wr hfi.1);by_cases hlt:k<es.length
  ·obtain ⟨a1,⟨la,ln,lc,a2⟩,a3,-⟩:=(hH.out.chg hfi.1 hb2.out) k hlt
   obtain ⟨hn1,hn2⟩:=hn.out k hlt;obtain ⟨xs,hxs⟩:=hfi.2.2 k hlt;have hstep:=mK (fun W1 W=>Aaf (W1:=W1) (W:=W) hfi hlt hD.out);replace hfi:=mK hfi;obtain ⟨a,c,hv,hc1,hc2,hcx,hc3⟩:=En hxs;obtain ⟨n,hne⟩:=nmE (es[k].n);obtain ⟨len,hle⟩:=nmE (es[k].len);rw [hv] at a1 hxs hstep;rw [←hle] at a1 hxs hstep hc1 hc3 hcx hn2 hv;rw [←hne] at a3 hstep hn1;replace hxs:=mK hxs;replace hv:=mK hv;clear hne hle;go_wp2_with fail;obtain ⟨W1,hW1⟩:=nmE (wr.alloc (.cells #[.slice a len c,.slice la ln lc,.int .i64 n] 131));have hx1:W1.ownsRow base 58 11 (.slice a len c) len xs:=by rw [hW1];exact hxs.out.alloc _
   have hEW1:=aLe1 hW1;have c0:W1.cell? ⟨wr.heap.size,0,none⟩=some (.slice a len c):=by rw [hW1];go_simp
   have c2:W1.cell? ⟨wr.heap.size,2,none⟩=some (.int .i64 n):=by rw [hW1];go_simp
   have hne:some wr.heap.size≠(Value.slice a len c).ownBlock:=fun e=>Nat.lt_irrefl _ (hxs.out.lt _ e.symm).2
   have hT1:∀ W2,W1.grownBy W2 (Value.slice a len c).ownBlock→Tab10 W2:=fun W2 hg=>by
    have hc:Chg wr W2 (fun g=>some g=(Value.slice a len c).ownBlock):=(Chg.of_ext hEW1 _).trans (Chg.grown hg);refine Cx ht.out (hc.ext w0 hE0r.out fun g hgk hgs=>?_);have:=hlo2.out k hlt g (by rw [hv.out];exact hgs.symm);omega
   replace hT1:=mK hT1;replace hEW1:=mK hEW1;rw [←hW1];replace hW1:=mK hW1;replace hxs:=mK hxs;generalize wr.heap.size=hh at *;replace hx1:=mK hx1;go_loopw [4] (fun j W2=>∃ q:Nat,q≤len∧j=.int .i64 q∧W1.grownBy W2 (Value.slice a len c).ownBlock∧W2.ownsRow base 58 11 (.slice a len c) len (Ex (mkPL n) xs q)) (fun j _=>len-(intOf j).toNat)
   case atStart=>exact ⟨0,Nat.zero_le _,rfl,World.grownBy.refl _ _,by rw [Zh];exact hx1.out⟩
   case round=>
    obtain ⟨q,hq,rfl,hgr,how⟩:=hrel;have d0:=hgr.cell c0 hne;have d2:=hgr.cell c2 hne;clear c0 c2;by_cases hql:q<len
    ·obtain ⟨g,rfl⟩:=hc3 (by omega)
     have htab:=hT1.out wr hgr;go_wp2_with fail;have d0:=fun W (e:Ext wr W)=>e.cell d0;have d2:=fun W (e:Ext wr W)=>e.cell d2;have hmk:=fun W (e:Ext wr W)=>Pz n W (by omega) (Cx htab e);apply Ad [.val _,.val _,.val _,.val _,.val _,.val (.agg (mkP n)),.val _] (by kernel_rfl) (stable_vals _ (stable_vals _ (stable_vals _ (stable_vals _ (stable_vals _ (stable_vals _ (stable_vals _ trivial)))))));iterate 5 (refine ⟨fun W hW _=>by go_simp;exact ⟨xR _,rfl⟩,?_⟩)
     refine ⟨fun W hW _=>by first|(go_simp;done)|(go_simp;exact (hmk W hW).mono (by rintro e w' ⟨rfl,hx⟩;exact ⟨rfl,hx⟩)),?_⟩;iterate 1 (refine ⟨fun W hW _=>by go_simp;exact ⟨xR _,rfl⟩,?_⟩)
     intro W hW _;have how':=Aw how hW;obtain ⟨cur,hcur,hroom,hs1,hs2⟩:=Wi how' q hql (Le n);rw [show (Ex (mkPL n) xs q).take (q*11)++mkPL n++(Ex (mkPL n) xs q).drop (q*11+11)=Ex (mkPL n) xs (q+1) from Acv (mkPL n) xs q] at hs1;have hgr':=Fc hgr hW hs2;obtain ⟨W',hW'⟩:∃ W',W'=W.setRow g (cur.toList.take (q*11)++mkPL n++cur.toList.drop (q*11+11)).toArray:=⟨_,rfl⟩
     rw [←hW'] at hs1 hgr';replace hs1:=mK hs1;replace hgr':=mK hgr';clear hs2 how how' hgr d0 d2 hmk htab;go_simp;refine Cu rfl 58 (.tmp 34) (.tmp 33) rfl g (q*11) rfl 58 cur (cur.toList.take (q*11)++mkPL n++cur.toList.drop (q*11+11)).toArray (mkP n) rfl hcur (by kernel_rfl) hroom rfl (by kernel_rfl) ?_;rw [←hW'];clear hW';go_wp2_with fail;go_roundw
     case rel=>exact ⟨q+1,by omega,by go_num,hgr'.out,hs1.out⟩
     case measure=>simp [intOf]<;>omega
    ·obtain rfl:q=len:=by omega
     rw [Acw (mkPL n) xs q (by rw [hcx];rfl)] at how;have hst2:=mK (hstep.out _ _ hEW1.out hgr how);clear hgr how;go_wp2_with fail;go_roundw
     case rel=>exact ⟨k+1,by omega,by go_num,hst2.out⟩
     case measure=>simp [intOf]<;>omega
  ·go_wp2_with fail
   go_end0;obtain rfl:k=es.length:=by omega
   exact ⟨rfl,hfi⟩
theorem Aaa (w0:World)(bk hb cap base:Nat)(es:List Ent)(w:World)(ht:Tab10 w0)(hE0:Ext w0 w)(hlo:∀ g,Blocks es g→w0.heap.size≤g)(hlb:w0.heap.size≤hb)(h:w.cell? ⟨bk,12,none⟩=some (.slice (some ⟨hb,0,none⟩) es.length cap))(h2:es.length≤1000000)
 (hH:Holds w hb es) (hM:MarkedW base 58 11 mkPL w es es.length) (hD:Distinct es) (hb1:¬Blocks es bk) (hb2:¬Blocks es hb) (hb3:bk≠hb) (hb4:hb<w.heap.size) (hbs:base≤w.heap.size) (hn:∀ i (h:i<es.length),es[i].n≤1000000∧es[i].len≤1000000) :
 Calls Tryz.prog 62 #[.pointer (some ⟨bk,0,none⟩)] w fun e w'=>e=.returned (.tuple #[])∧GrowIW base 58 11 mkPL w w' hb es es.length:=by
 have hst:=mK (Ur hM hH);have hBl:Hid (∀ g,Blocks es g→g<w.heap.size):=mK fun g ⟨i,hi,hg⟩=>((hM i hi hi).lt g hg).2;have hT:=mK (fun wr (c:Chg w wr (fun g=>Blocks es g∨g=hb))=>(c.ext w0 hE0 fun k hk hB=>by rcases hB with hB|rfl;(have:=hlo k hB;omega);omega));have hlo2:=mK (fun k (hk:k<es.length) g (hg:es[k].l.ownBlock=some g)=>hlo g ⟨k,hk,hg⟩);replace hb1:=mK hb1;replace hb2:=mK hb2;replace hb3:=mK hb3;replace hH:=mK hH;replace hD:=mK hD;replace hn:=mK hn;replace hM:=mK hM;replace ht:=mK ht;clear hlo hE0 hlb;go_enter Tryz.func62,Tryz.ntmps62;go_wp2_with fail;go_loopw [2] (fun i wr=>∃ k:Nat,k≤es.length∧i=.int .i64 k∧GrowIW base 58 11 mkPL w wr hb es k) (fun i _=>es.length-(intOf i).toNat)
 case atStart=>exact ⟨0,Nat.zero_le _,rfl,hst.out⟩
 case round=>
  obtain ⟨k,hk,rfl,hfi⟩:=hrel;have hbk:=hfi.1.cell h (fun e=>e.elim hb1.out hb3.out);have hE0r:=mK (hT.out wr hfi.1);by_cases hlt:k<es.length
  ·obtain ⟨a1,⟨la,ln,lc,a2⟩,a3,hfz⟩:=hfi.2.2.1 k hlt
   obtain ⟨hn1,hn2⟩:=hn.out k hlt;have hxs:=hfi.2.1 k hlt hlt;have hss:=hfi.1.size;have hstep:=mK (fun W1 W2 v=>Xd (W1:=W1) (W2:=W2) (v:=v) hfi hlt hD.out hb4 hb2.out hBl.out);replace hfi:=mK hfi;obtain ⟨a,c,hv,hc1,hc2,hcx,hc3⟩:=En hxs;obtain ⟨n,hne⟩:=nmE (es[k].n);obtain ⟨len,hle⟩:=nmE (es[k].len);rw [hv] at a1 hxs hstep;rw [←hle] at a1 hxs hstep hc1 hc3 hn2 hv;rw [←hne] at a3 hstep hn1 hxs;replace hxs:=mK hxs;replace hv:=mK hv;clear hne hle hcx;go_wp2_with fail;obtain ⟨W1,hW1⟩:=nmE (wr.alloc (.cells #[.slice a len c,.slice la ln lc,.int .i64 n] 131));have hx1:W1.ownsRow base 58 11 (.slice a len c) len (many len (mkPL n)):=by rw [hW1];exact hxs.out.alloc _
   have hEW1:=aLe1 hW1;have c2:W1.cell? ⟨wr.heap.size,2,none⟩=some (.int .i64 n):=by rw [hW1];go_simp
   have cbk:W1.cell? ⟨bk,12,none⟩=some (.slice (some ⟨hb,0,none⟩) es.length cap):=hEW1.cell hbk;have clg:W1.cell? ⟨hb,k*3+1,none⟩=some (.slice la ln lc):=hEW1.cell a2;have clg0:=mK clg;have hfz:W1.frozen? ⟨hb,k*3+1,none⟩=false:=by rw [World.frozen?_of_block (hEW1.block hb (World.block_lt_of_cell? _ _ a2))];exact hfz
   have hne:some wr.heap.size≠(Value.slice a len c).ownBlock:=fun e=>Nat.lt_irrefl _ (hxs.out.lt _ e.symm).2;have hne2:some bk≠(Value.slice a len c).ownBlock:=fun e=>hb1.out ⟨k,hlt,by rw [hv.out];exact e.symm⟩;have hne3:some hb≠(Value.slice a len c).ownBlock:=fun e=>hb2.out ⟨k,hlt,by rw [hv.out];exact e.symm⟩;have hlw:∀ g,(Value.slice a len c).ownBlock=some g→g<W1.heap.size:=fun g e=>(hx1.lt g e).2;have hbw:base≤W1.heap.size:=by have:=hEW1.size;omega
   have hT1:∀ W2,W1.grownBy W2 (Value.slice a len c).ownBlock→Tab10 W2:=fun W2 hg=>by
    have hc:Chg wr W2 (fun g=>some g=(Value.slice a len c).ownBlock):=(Chg.of_ext hEW1 _).trans (Chg.grown hg);refine Cx ht.out (hc.ext w0 hE0r.out fun g hgk hgs=>?_);have:=hlo2.out k hlt g (by rw [hv.out];exact hgs.symm);omega
   replace hT1:=mK hT1;replace hEW1:=mK hEW1;rw [←hW1];replace hW1:=mK hW1;replace hxs:=mK hxs;replace hlw:=mK hlw;generalize wr.heap.size=hh at *;have hgs:=Uq hx1;clear a1 a2 a3 hbk hx1;obtain ⟨i0,hi,hz0,hz1,hz2⟩:=info_parts Qk;go_loopw [5,4] (fun j lg W2=>∃ q:Nat,q≤70∧j=.int .i64 q∧Rk base 58 11 (mkPL n) W1 W2 (.slice a len c) len lg q) (fun j _ _=>70-(intOf j).toNat)
   case atStart=>exact ⟨0,Nat.zero_le _,rfl,hgs⟩
   case round=>
    obtain ⟨q,hq,rfl,hgr⟩:=hrel;have d2:=hgr.1.cell c2 hne;have dbk:=hgr.1.cell cbk hne2;have dlg:=hgr.1.cell clg hne3;clear c2 cbk clg;by_cases hql:q<70
    ·have htab:=hT1.out wr hgr.1
     have hmk:=mK (Pz n wr (by omega) htab);clear htab;replace hgr:=mK hgr;have tok:Tok 0:=.mk _
     go_wp2_with (first
      | (replace tok:Tok 1:=nxT 0 tok;go_at_call 133;refine hmk.out.mono ?_;rintro e w3 ⟨rfl,h3⟩;unfold mkP;(obtain ⟨v',w',happ,hgr'⟩:=Xb (P:=Tryz.prog) Ab3 hi hz0 hz1 hz2 rfl (by decide) (Le n) (Ahy n) (ty:=26) hgr.out (h3.al (.cells #[.string (Fs n),.int .u8 0,.bool false,.slice none 0 0,.bool false,.slice none 0 0,.bool false,.slice none 0 0,.bool false,.slice none 0 0,.int .i64 0] 58)) hlw.out hbw w3.heap.size (heap_alloc_new _ _) (by omega) (by decide));replace hgr':=mK hgr';replace happ:=mK happ)
      | (replace tok:Tok 2:=nxT 1 tok;at_builtin;refine Fr rfl (.tmp 28) (.tmp 32) 26 rfl rfl rfl happ.out ?_))
     go_roundw
     case rel=>exact ⟨q+1,by omega,by go_num,hgr'.out⟩
     case measure=>simp [intOf]<;>omega
    ·obtain rfl:q=70:=by omega
     obtain ⟨a4,c4,hlg,-,-,-,-⟩:=En hgr.2.1
     have hfz4:wr.frozen? ⟨hb,k*3+1,none⟩=false:=by
      rw [World.frozen?_of_block ((Chg.grown hgr.1).block hb (World.block_lt_of_cell? _ _ clg0.out) hne3)];exact hfz
     have hst2:=hstep.out _ _ _ hEW1.out hgr;rw [hlg] at hst2 ⊢;replace hst2:=mK hst2;replace hgr:=mK hgr;go_wp2_with fail;go_roundw
     case rel=>exact ⟨k+1,by omega,by go_num,hst2.out⟩
     case measure=>simp [intOf]<;>omega
  ·go_wp2_with fail
   go_end0;obtain rfl:k=es.length:=by omega
   exact ⟨rfl,hfi⟩
theorem Zm (wx:World)(bk hb cap base:Nat)(es:List Ent)(w:World)(ht:Tab10 w)(h:w.cell? ⟨bk,12,none⟩=some (.slice (some ⟨hb,0,none⟩) es.length cap))(h2:es.length≤1000000)
 (hG:LookIW base 58 11 mkPL wx w hb es es.length) (hn:∀ i (h:i<es.length),es[i].n≤1000000∧es[i].len≤1000000) :
 Calls Tryz.prog 78 #[.pointer (some ⟨bk,0,none⟩)] w fun e w'=>e=.returned (.bool true)∧Ext w w':=by
 replace hG:=mK hG;replace hn:=mK hn;replace ht:=mK ht;go_enter Tryz.func78,Tryz.ntmps78;go_wp2_with fail;go_loopw [3] (fun i wr=>∃ k:Nat,k≤es.length∧i=.int .i64 k∧Ext w wr) (fun i _=>es.length-(intOf i).toNat)
 case atStart=>exact ⟨0,Nat.zero_le _,rfl,xR _⟩
 case round=>
  obtain ⟨k,hk,rfl,hE⟩:=hrel;have hbk:=hE.cell h;by_cases hlt:k<es.length
  ·obtain ⟨a1,-,a3,-⟩:=hG.out.2.1 k hlt
   obtain ⟨lg,a2,hlo,-⟩:=hG.out.2.2 k hlt hlt;obtain ⟨hn1,hn2⟩:=hn.out k hlt;have hxs:=hG.out.1 k hlt hlt;obtain ⟨a,c,hv,hc1,hc2,-,-⟩:=En hxs;obtain ⟨a',c',hv',hc1',hc2',-,-⟩:=En hlo;subst hv';rw [hv] at a1 hxs;obtain ⟨n,hne⟩:=nmE (es[k].n);obtain ⟨len,hle⟩:=nmE (es[k].len);rw [←hle] at a1 a2 hxs hlo hn2 hc1 hc1';rw [←hne] at a3 hn1 hxs hlo;replace a1:=hE.cell a1;replace a2:=hE.cell a2;replace a3:=hE.cell a3;have hr:=mK (fun (q:Nat) (hq:q<len)=>Ns (cs:=mkPL n) hxs hq);have hr':=mK (fun (q:Nat) (hq:q<len+70)=>Ns (cs:=mkPL n) hlo hq);clear hv hne hle hxs hlo;replace hE:=mK hE;go_wp2_with fail;obtain ⟨W1,hW1⟩:=nmE (wr.alloc (.cells #[.slice a len c,.slice a' (len+70) c',.int .i64 n] 131));have hE1:=aLe1 hW1;have c0:=mK (fun W (e:Ext W1 W)=>show W.cell? ⟨wr.heap.size,0,none⟩=some (.slice a len c) from e.cell (by rw [hW1];go_simp));have c1:=mK (fun W (e:Ext W1 W)=>show W.cell? ⟨wr.heap.size,1,none⟩=some (.slice a' (len+70) c') from e.cell (by rw [hW1];go_simp));have c2:=mK (fun W (e:Ext W1 W)=>show W.cell? ⟨wr.heap.size,2,none⟩=some (.int .i64 n) from e.cell (by rw [hW1];go_simp));have hE2:=mK (hE.out.trans hE1);have d0:=c0.out W1 (xR _);have d1:=c1.out W1 (xR _);rw [←hW1];generalize wr.heap.size=hh at *;clear hE hE1 hW1 a1 a2 a3 hbk;go_wp2_with fail;clear d0 d1;go_loopw [5] (fun j W2=>∃ q:Nat,q≤len+70∧j=.int .i64 q∧Ext W1 W2) (fun j _=>len+70-(intOf j).toNat)
   case atStart=>exact ⟨0,Nat.zero_le _,rfl,xR _⟩
   case round=>
    obtain ⟨q,hq,rfl,hd⟩:=hrel;have d0:=c0.out wr hd;have d1:=c1.out wr hd;have c0':=mK (fun W (e:Ext wr W)=>c0.out W (hd.trans e));have c1':=mK (fun W (e:Ext wr W)=>c1.out W (hd.trans e));have c2':=mK (fun W (e:Ext wr W)=>c2.out W (hd.trans e));have K:=mK (fun W (e:Ext wr W)=>Afs n W (by omega) (Cx ht.out ((hE2.out.trans hd).trans e)));by_cases hql:q<len+70
    ·unfold mkP at K
     have hql':(q:Int)<(len:Int)+70:=by omega
     obtain ⟨b',rfl,hx'⟩:=hr'.out q hql;rw [Le] at hx';replace hx':_:=show World.rangeAt _ b' (q*11) [.string (Fs n),.int .u8 0,.bool false,.slice none 0 0,.bool false,.slice none 0 0,.bool false,.slice none 0 0,.bool false,.slice none 0 0,.int .i64 0] from hx'
     have x':=mK (fun W (e:Ext wr W)=>Bc (Bc (Bc hx' hE2.out) hd) e);by_cases hql2:q<len
     ·have hql2':(q:Int)<(len:Int):=by omega
      obtain ⟨b,rfl,hx⟩:=hr.out q hql2;rw [Le] at hx;replace hx:_:=show World.rangeAt _ b (q*11) [.string (Fs n),.int .u8 0,.bool false,.slice none 0 0,.bool false,.slice none 0 0,.bool false,.slice none 0 0,.bool false,.slice none 0 0,.int .i64 0] from hx
      have x:=mK (fun W (e:Ext wr W)=>Bc (Bc (Bc hx hE2.out) hd) e);clear hx hx';replace hd:=mK hd;go_wp2_with fail;clear d0 d1;apply Ad [.val (.pointer (some ⟨hh,1,none⟩)),.val (.slice (some ⟨b',0,none⟩) (len+70) c'),.val (.int .i64 q),.val (.pointer (some ⟨b',q*11,none⟩)),.val (.agg #[.string (Fs n),.int .u8 0,.bool false,.slice none 0 0,.bool false,.slice none 0 0,.bool false,.slice none 0 0,.bool false,.slice none 0 0,.int .i64 0]),.val (.pointer (some ⟨hh,2,none⟩)),.val (.int .i64 n),.val (.bool true),.val (.bool false),.val (.bool false),.val (.int .i64 q),.val (.pointer (some ⟨hh,0,none⟩)),.val (.slice (some ⟨b,0,none⟩) len c),.val (.int .i64 len),.val (.bool true),.val (.bool true),.val (.pointer (some ⟨hh,0,none⟩)),.val (.slice (some ⟨b,0,none⟩) len c),.val (.int .i64 q),.val (.pointer (some ⟨b,q*11,none⟩)),.val (.agg #[.string (Fs n),.int .u8 0,.bool false,.slice none 0 0,.bool false,.slice none 0 0,.bool false,.slice none 0 0,.bool false,.slice none 0 0,.int .i64 0]),.val (.pointer (some ⟨hh,2,none⟩)),.val (.int .i64 n),.val (.bool true),.val (.bool false),.val (.bool false),.val (.bool false)] (by kernel_rfl) (stable_vals _ (stable_vals _ (stable_vals _ (stable_vals _ (stable_vals _ (stable_vals _ (stable_vals _ (stable_vals _ (stable_vals _ (stable_vals _ (stable_vals _ (stable_vals _ (stable_vals _ (stable_vals _ (stable_vals _ (stable_vals _ (stable_vals _ (stable_vals _ (stable_vals _ (stable_vals _ (stable_vals _ (stable_vals _ (stable_vals _ (stable_vals _ (stable_vals _ (stable_vals _ (stable_vals _ (trivial))))))))))))))))))))))))))));iterate 1 (refine ⟨fun W hW _=>by go_simp;first|exact ⟨xR _,rfl⟩|exact xR _,?_⟩)
      refine ⟨fun W hW _=>by have y:=c1'.out W hW;go_simp;first|exact ⟨xR _,rfl⟩|exact xR _,?_⟩;iterate 2 (refine ⟨fun W hW _=>by go_simp;first|exact ⟨xR _,rfl⟩|exact xR _,?_⟩)
      refine ⟨?l1,?_⟩
      case l1=>
       intro W hW hF;have hr:=x'.out W hW;with_reducible refine Bo ?zhw 58 (.tmp 40) ?zho b' (q*11) ?zhx [.string (Fs n),.int .u8 0,.bool false,.slice none 0 0,.bool false,.slice none 0 0,.bool false,.slice none 0 0,.bool false,.slice none 0 0,.int .i64 0] _ hr Tryz.underlying58 ?zhd ?zhi ?zh
       case zhw=>kernel_rfl
       case zho=>rfl
       case zhx=>kernel_rfl
       case zhd=>rfl
       case zhi=>kernel_rfl
       case zh=>exact ⟨xR _,rfl⟩
      iterate 1 (refine ⟨fun W hW _=>by go_simp;first|exact ⟨xR _,rfl⟩|exact xR _,?_⟩)
      refine ⟨fun W hW _=>by have y:=c2'.out W hW;go_simp;first|exact ⟨xR _,rfl⟩|exact xR _,?_⟩;refine ⟨fun W hW _=>by go_simp;exact (K.out W hW).mono (by rintro e w' ⟨rfl,hx⟩;first|exact ⟨rfl,hx⟩|exact ⟨hx,rfl⟩),?_⟩;iterate 4 (refine ⟨fun W hW _=>by go_simp;first|exact ⟨xR _,rfl⟩|exact xR _,?_⟩)
      refine ⟨fun W hW _=>by have y:=c0'.out W hW;go_simp;first|exact ⟨xR _,rfl⟩|exact xR _,?_⟩;iterate 3 (refine ⟨fun W hW _=>by go_simp;first|exact ⟨xR _,rfl⟩|exact xR _,?_⟩)
      iterate 1 (refine ⟨fun W hW _=>by go_simp;first|exact ⟨xR _,rfl⟩|exact xR _,?_⟩)
      refine ⟨fun W hW _=>by have y:=c0'.out W hW;go_simp;first|exact ⟨xR _,rfl⟩|exact xR _,?_⟩;iterate 2 (refine ⟨fun W hW _=>by go_simp;first|exact ⟨xR _,rfl⟩|exact xR _,?_⟩)
      refine ⟨?l2,?_⟩
      case l2=>
       intro W hW hF;have hr:=x.out W hW;with_reducible refine Bo ?zhw 58 (.tmp 56) ?zho b (q*11) ?zhx [.string (Fs n),.int .u8 0,.bool false,.slice none 0 0,.bool false,.slice none 0 0,.bool false,.slice none 0 0,.bool false,.slice none 0 0,.int .i64 0] _ hr Tryz.underlying58 ?zhd ?zhi ?zh
       case zhw=>kernel_rfl
       case zho=>rfl
       case zhx=>kernel_rfl
       case zhd=>rfl
       case zhi=>kernel_rfl
       case zh=>exact ⟨xR _,rfl⟩
      iterate 1 (refine ⟨fun W hW _=>by go_simp;first|exact ⟨xR _,rfl⟩|exact xR _,?_⟩)
      refine ⟨fun W hW _=>by have y:=c2'.out W hW;go_simp;first|exact ⟨xR _,rfl⟩|exact xR _,?_⟩;refine ⟨fun W hW _=>by go_simp;exact (K.out W hW).mono (by rintro e w' ⟨rfl,hx⟩;first|exact ⟨rfl,hx⟩|exact ⟨hx,rfl⟩),?_⟩;iterate 3 (refine ⟨fun W hW _=>by go_simp;first|exact ⟨xR _,rfl⟩|exact xR _,?_⟩)
      intro W hW _;have hd2:=mK (hd.out.trans hW);clear hW c0' c1' c2' K x';go_simp;go_wp2_with fail;go_roundw
      case rel=>exact ⟨q+1,by omega,by go_num,hd2.out⟩
      case measure=>simp [intOf]<;>omega
     ·clear hx'
      replace hd:=mK hd;have hnl:¬(q:Int)<(len:Int):=by omega
      go_wp2_with fail;clear d0 d1;apply Ad [.val (.pointer (some ⟨hh,1,none⟩)),.val (.slice (some ⟨b',0,none⟩) (len+70) c'),.val (.int .i64 q),.val (.pointer (some ⟨b',q*11,none⟩)),.val (.agg #[.string (Fs n),.int .u8 0,.bool false,.slice none 0 0,.bool false,.slice none 0 0,.bool false,.slice none 0 0,.bool false,.slice none 0 0,.int .i64 0]),.val (.pointer (some ⟨hh,2,none⟩)),.val (.int .i64 n),.val (.bool true),.val (.bool false),.val (.bool false),.val (.int .i64 q),.val (.pointer (some ⟨hh,0,none⟩)),.val (.slice a len c),.val (.int .i64 len),.val (.bool false),.val (.bool false),.val undef,.val undef,.val undef,.val undef,.val undef,.val undef,.val undef,.val undef,.val undef,.val (.bool false),.val (.bool false)] (by kernel_rfl) (stable_vals _ (stable_vals _ (stable_vals _ (stable_vals _ (stable_vals _ (stable_vals _ (stable_vals _ (stable_vals _ (stable_vals _ (stable_vals _ (stable_vals _ (stable_vals _ (stable_vals _ (stable_vals _ (stable_vals _ (stable_vals _ (stable_vals _ (stable_vals _ (stable_vals _ (stable_vals _ (stable_vals _ (stable_vals _ (stable_vals _ (stable_vals _ (stable_vals _ (stable_vals _ (stable_vals _ (trivial))))))))))))))))))))))))))));iterate 1 (refine ⟨fun W hW _=>by go_simp;first|exact ⟨xR _,rfl⟩|exact xR _,?_⟩)
      refine ⟨fun W hW _=>by have y:=c1'.out W hW;go_simp;first|exact ⟨xR _,rfl⟩|exact xR _,?_⟩;iterate 2 (refine ⟨fun W hW _=>by go_simp;first|exact ⟨xR _,rfl⟩|exact xR _,?_⟩)
      refine ⟨?l1,?_⟩
      case l1=>
       intro W hW hF;have hr:=x'.out W hW;with_reducible refine Bo ?zhw 58 (.tmp 40) ?zho b' (q*11) ?zhx [.string (Fs n),.int .u8 0,.bool false,.slice none 0 0,.bool false,.slice none 0 0,.bool false,.slice none 0 0,.bool false,.slice none 0 0,.int .i64 0] _ hr Tryz.underlying58 ?zhd ?zhi ?zh
       case zhw=>kernel_rfl
       case zho=>rfl
       case zhx=>kernel_rfl
       case zhd=>rfl
       case zhi=>kernel_rfl
       case zh=>exact ⟨xR _,rfl⟩
      iterate 1 (refine ⟨fun W hW _=>by go_simp;first|exact ⟨xR _,rfl⟩|exact xR _,?_⟩)
      refine ⟨fun W hW _=>by have y:=c2'.out W hW;go_simp;first|exact ⟨xR _,rfl⟩|exact xR _,?_⟩;refine ⟨fun W hW _=>by go_simp;exact (K.out W hW).mono (by rintro e w' ⟨rfl,hx⟩;first|exact ⟨rfl,hx⟩|exact ⟨hx,rfl⟩),?_⟩;iterate 4 (refine ⟨fun W hW _=>by go_simp;first|exact ⟨xR _,rfl⟩|exact xR _,?_⟩)
      refine ⟨fun W hW _=>by have y:=c0'.out W hW;go_simp;first|exact ⟨xR _,rfl⟩|exact xR _,?_⟩;iterate 3 (refine ⟨fun W hW _=>by go_simp;first|exact ⟨xR _,rfl⟩|exact xR _,?_⟩)
      iterate 11 (refine ⟨fun W hW _=>by go_simp<;>first|exact ⟨xR _,rfl⟩|exact xR _,?_⟩)
      intro W hW _;have hd2:=mK (hd.out.trans hW);clear hW c0' c1' c2' K x';go_simp;go_wp2_with fail;go_roundw
      case rel=>exact ⟨q+1,by omega,by go_num,hd2.out⟩
      case measure=>simp [intOf]<;>omega
    ·obtain rfl:q=len+70:=by omega
     have hE3:=mK (hE2.out.trans hd);replace hd:=mK hd;go_wp2_with fail;go_roundw
     case rel=>exact ⟨k+1,by omega,by go_num,hE3.out⟩
     case measure=>simp [intOf]<;>omega
  ·go_wp2_with fail
   go_ret;exact ⟨rfl,hE⟩
theorem Un:(Tryz.prog.info? 131).map (fun i=>(i.zero,i.size,i.bytes))=some (some (.agg #[.slice none 0 0,.slice none 0 0,.int .i64 0]),3,56):=by kernel_rfl
theorem Rl:Tryz.prog.underlying 40=some (.slice 131):=by kernel_rfl
theorem Zv (bk base:Nat)(sa:Option Addr)(sc:Nat)(la:Option Addr)(len lc:Nat)(es:List Ent)(n:Nat)(w:World)(hn:n≤1000000)(hes:es.length≤1000000)
  (h0:w.cell? ⟨bk,0,none⟩=some (.int .i64 n)) (hs:w.cell? ⟨bk,12,none⟩=some (.slice sa es.length sc)) (hf:∀ j,w.frozen? ⟨bk,j,none⟩=false)
  (ho:Own3 base 131 w (.slice sa es.length sc) es) (hbk:some bk≠(Value.slice sa es.length sc).ownBlock) (hbs:base≤w.heap.size) :
  Calls Tryz.prog 29 #[.pointer (some ⟨bk,0,none⟩),.slice la len lc] w fun e w'=>e=.returned (.tuple #[]) ∧
   Kept bk 12 base 131 w (.slice sa es.length sc) es (Ent.mk (.slice la len lc) (n+1) len) w':=by
 have hbw:bk<w.heap.size:=World.block_lt_of_cell? w _ h0;have hf0:=hf 0;replace hf:=mK hf;replace ho:=mK ho;go_enter Tryz.func29,Tryz.ntmps29;go_wp2_with fail;obtain ⟨N,hN⟩:=nmE (n+1);rw [show (n:Int)+1=(N:Int) by omega];replace hN:=mK hN;obtain ⟨w1,hw1⟩:=nmE (w.setCell ⟨bk,0,none⟩ (.int .i64 (N:Int)));have hc1:Chg w w1 (fun g=>g=bk):=by rw [hw1];exact ⟨rfl,rfl,rfl,by simp,fun j _ hj=>heap_setCell_other w _ j _ hj⟩
 have k0:w1.cell? ⟨bk,0,none⟩=some (.int .i64 (N:Int)):=by rw [hw1];exact World.cell?_setCell_same (h:=h0) ..
 have k4:w1.cell? ⟨bk,12,none⟩=some (.slice sa es.length sc):=by rw [hw1,World.cell?_setCell_other _ _ _ _ (by simp)];exact hs
 have kr:Rest bk 12 w w1:=fun i hi _=>by rw [hw1,World.cell?_setCell_other (a:=⟨bk,0,none⟩) (b:=⟨bk,i,none⟩) (h:=fun e=>Ne.symm hi (congrArg Addr.off e))]
 have kf:∀ j,w1.frozen? ⟨bk,j,none⟩=false:=fun j=>by rw [hw1,World.frozen?_setCell];exact hf.out j
 have ko:Own3 base 131 w1 (.slice sa es.length sc) es:=hc1.row ho.out fun g hg e=>hbk (by rw [hg,e]);have hsz:w1.heap.size=w.heap.size:=by rw [hw1];simp
 have hol:∀ g,(Value.slice sa es.length sc).ownBlock=some g→g<w1.heap.size:=fun g e=>(ko.lt g e).2;rw [←hw1];have hbk1:bk<w1.heap.size:=by omega
 have hnb:∀ W,AppR (Value.slice sa es.length sc).ownBlock (es.length*3) (.slice la len lc) (.slice none 0 0) (.int .i64 (N:Int)) w1 W→W.heap[bk]? = w1.heap[bk]?:=fun W e=>(e.block bk hbk1).resolve_right fun h=>hbk h.1;have g0:∀ W,AppR (Value.slice sa es.length sc).ownBlock (es.length*3) (.slice la len lc) (.slice none 0 0) (.int .i64 (N:Int)) w1 W→W.cell? ⟨bk,0,none⟩=some (.int .i64 (N:Int)):=fun W e=>(World.cell?_of_block (hnb W e)).trans k0;have g4:∀ W,AppR (Value.slice sa es.length sc).ownBlock (es.length*3) (.slice la len lc) (.slice none 0 0) (.int .i64 (N:Int)) w1 W→W.cell? ⟨bk,12,none⟩=some (.slice sa es.length sc):=fun W e=>(World.cell?_of_block (hnb W e)).trans k4;replace hnb:=mK hnb;replace hw1:=mK hw1;replace kr:=mK kr;replace kf:=mK kf;replace ko:=mK ko;replace hc1:=mK hc1;replace hol:=mK hol;replace k0:=mK k0;replace k4:=mK k4;clear h0 hs hf0
 apply Pi (Value.slice sa es.length sc).ownBlock (es.length*3) (.slice la len lc) (.slice none 0 0) (.int .i64 (N:Int))
  [.val _,.val _,.val _,.val _,.val _,.val _,.val _,.val _,.val _,.val _,.val _,.pred (PB w1.heap.size 131 (.slice la len lc) (N:Int)),
  .pred (PA base 131 w1.heap.size (Value.slice sa es.length sc).ownBlock (es++[Ent.mk (.slice la len lc) N len])),.val _,.val _] (by kernel_rfl)
  (stable_vals _ (stable_vals _ (stable_vals _ (stable_vals _ (stable_vals _ (stable_vals _ (stable_vals _ (stable_vals _ (stable_vals _ (stable_vals _ (stable_vals _
   ⟨fun W W' v e h=>PB.stable hol.out e h,fun W W' v e h=>PA.stable (es:=es) (e:=Ent.mk (.slice la len lc) N len) e h,stable_vals _ (stable_vals _ trivial)⟩)))))))))))
 iterate 11 (refine ⟨fun W hW _=>by go_simp;exact ⟨AppR.refl _,rfl⟩,?_⟩)
 refine ⟨fun W hW _=>?pb,fun vb=>?_⟩
 case pb=>
  go_simp;exact ⟨AppR.of_ext ((xR _).al _),W.heap.size,rfl,by have:=hW.size;omega,heap_alloc_new W _⟩
 refine ⟨fun W hW hF=>?pa,fun va=>?_⟩
 case pa=>
  obtain ⟨b,rfl,hb1,hb2⟩:=hF.1 (by kernel_rfl);rw [if_pos (by kernel_rfl)];obtain ⟨i0,hi,hz0,hz1,hz2⟩:=info_parts Un;obtain ⟨v',w',r1,r2,r3,r4⟩:=Re (P:=Tryz.prog) W base 40 40 131 i0 _ 56 Rl hi hz0 hz1 hz2 rfl (.slice sa es.length sc) es (ko.out.stable hW) (Ent.mk (.slice la len lc) N len) b hb2 rfl hes (by omega) (by have:=hW.size;omega);refine Gf (vs:=.slice sa es.length sc) (vx:=.slice (some ⟨b,0,none⟩) 1 1) (.tmp 15) (.tmp 22) 40 rfl (by simp [Act.eval,Act.put]) (by simp [Act.eval,Act.put]) r1 ⟨r2,r3,?_⟩;rcases r4 with h|h
  ·exact .inl h
  ·exact .inr ⟨_,h,hW.size⟩
 iterate 2 (refine ⟨fun W hW _=>by go_simp;exact ⟨AppR.refl _,rfl⟩,?_⟩)
 intro W hW hF;have hp:PA base 131 w1.heap.size (Value.slice sa es.length sc).ownBlock (es++[Ent.mk (.slice la len lc) N len]) W va:=hF.1 rfl;clear hF;have hfin:=Abl (j:=12) (by decide) hbw hbk hc1.out hsz kr.out k0.out k4.out kf.out hW hp;rw [hN.out] at hfin;obtain ⟨a',c',hva⟩:=hp.1.shape;rw [show (es++[Ent.mk (.slice la len lc) N len]).length=es.length+1 by simp] at hva;have q4:=g4 W hW;have qf:W.frozen? ⟨bk,12,none⟩=false:=by rw [World.frozen?_of_block (hnb.out W hW)];exact kf.out 12
 subst hva;replace hfin:=mK hfin;replace hp:=mK hp;replace hW:=mK hW;clear g0 g4;go_simp;go_wp2_with fail;go_end0;exact ⟨rfl,hfin.out⟩
end Go.Proofs.YteogdoglboddhaaGreatDoor
namespace Go.Proofs.YteogdoglboddhaaGreatDoor
set_option maxRecDepth 100000
open Go Go.RowKit Go.Proofs
def OwnB (bk j:Nat)(w:World)(g:Nat):Prop:=∃ a n c,w.cell? ⟨bk,j,none⟩=some (.slice a n c)∧(Value.slice a n c).ownBlock=some g
theorem OwnB.of {bk j g n c:Nat}{a:Option Addr}{w:World}(h:OwnB bk j w g)(hc:w.cell? ⟨bk,j,none⟩=some (.slice a n c)):(Value.slice a n c).ownBlock=some g:=by
 obtain ⟨a',n',c',h1,h2⟩:=h;rw [hc] at h1;cases h1;exact h2
theorem OwnB.same {bk j:Nat}{w w':World}(hc:w'.cell? ⟨bk,j,none⟩=w.cell? ⟨bk,j,none⟩){g:Nat}:OwnB bk j w' g↔OwnB bk j w g:=by
 unfold OwnB;rw [hc]
def BkP (bk:Nat)(es ps:List Ent)(w:World)(g:Nat):Prop:=g=bk∨OwnB bk 1 w g∨OwnB bk 12 w g∨Blocks es g∨Blocks ps g
theorem blocks_snoc {es:List Ent}{e:Ent}{g:Nat}:Blocks (es++[e]) g↔Blocks es g∨e.l.ownBlock=some g:=by
 constructor
 ·rintro ⟨i,hi,h⟩
  rcases Nat.lt_or_ge i es.length with hl|hl
  ·left
   rw [List.getElem_append_left hl] at h;exact ⟨i,hl,h⟩
  ·right
   have:i=es.length:=by simp at hi;omega
   subst this;simpa using h
 ·rintro (⟨i,hi,h⟩|h)
  ·exact ⟨i,by simp;omega,by rw [List.getElem_append_left hi];exact h⟩
  ·exact ⟨es.length,by simp,by simpa using h⟩
theorem Je {es:List Ent}{e:Ent}(h:Distinct es)(hn:∀ g,e.l.ownBlock=some g→¬Blocks es g):Distinct (es++[e]):=by
 have key:∀ i (hi:i<es.length),es[i].l.ownBlock=none∨es[i].l.ownBlock≠e.l.ownBlock:=fun i hi=>by
  cases hg:es[i].l.ownBlock with
  | none=>exact .inl rfl
  | some g=>exact .inr fun he=>hn g he.symm ⟨i,hi,hg⟩
 intro i j hi hj hne;have hi':i≤es.length:=by simp at hi;omega
 have hj':j≤es.length:=by simp at hj;omega
 rcases Nat.lt_or_ge i es.length with h1|h1
 ·rcases Nat.lt_or_ge j es.length with h2|h2
  ·rw [List.getElem_append_left h1,List.getElem_append_left h2]
   exact h i j h1 h2 hne
  ·have:j=es.length:=by omega
   subst this;rw [List.getElem_append_left h1];simpa using key i h1
 ·have:i=es.length:=by omega
  subst this;have h2:j<es.length:=by omega
  rw [List.getElem_append_left h2];cases hg:e.l.ownBlock with
  | none=>left;simpa using hg
  | some g=>
   right;intro he;have he':some g=es[j].l.ownBlock:=by rw [←hg];simpa using he
   exact hn g hg ⟨j,h2,he'.symm⟩
structure BkI (base bk:Nat) (es ps:List Ent) (w:World):Prop where
 lt:bk<w.heap.size
 bs:base≤bk
 n:w.cell? ⟨bk,0,none⟩=some (.int .i64 ((es.length+ps.length:Nat):Int))
 l:∃ sa sc,w.cell? ⟨bk,1,none⟩=some (.slice sa es.length sc)∧Own3 base 135 w (.slice sa es.length sc) es
 p:∃ sa sc,w.cell? ⟨bk,12,none⟩=some (.slice sa ps.length sc)∧Own3 base 131 w (.slice sa ps.length sc) ps
 f:∀ i,w.frozen? ⟨bk,i,none⟩=false
 z:∀ i,i≠0→i≠1→i≠12→i≤16→w.cell? ⟨bk,i,none⟩=some (.slice none 0 0)
 L:Lists base 136 w es
 LP:ListsW base 58 11 w ps
 D:Distinct es
 DP:Distinct ps
 s1:∀ g,OwnB bk 1 w g→g≠bk∧¬OwnB bk 12 w g∧¬Blocks es g∧¬Blocks ps g
 s2:∀ g,OwnB bk 12 w g→g≠bk∧¬Blocks es g∧¬Blocks ps g
 s3:∀ g,Blocks es g→g≠bk∧¬Blocks ps g
 s4:¬Blocks ps bk
 ne:∀ i (h:i<es.length),es[i].n≤1000000∧es[i].len≤1000000
 np:∀ i (h:i<ps.length),ps[i].n≤1000000∧ps[i].len≤1000000
theorem BkI.ltE {base bk:Nat}{es ps:List Ent}{w:World}(h:BkI base bk es ps w):∀ g,Blocks es g→base≤g∧g<w.heap.size:=by
 rintro g ⟨i,hi,hg⟩;obtain ⟨xs,hx⟩:=h.L i hi;exact hx.lt g hg
theorem BkI.ltP {base bk:Nat}{es ps:List Ent}{w:World}(h:BkI base bk es ps w):∀ g,Blocks ps g→base≤g∧g<w.heap.size:=by
 rintro g ⟨i,hi,hg⟩;obtain ⟨xs,hx⟩:=h.LP i hi;exact hx.lt g hg
theorem BkI.lt1 {base bk:Nat}{es ps:List Ent}{w:World}(h:BkI base bk es ps w):∀ g,OwnB bk 1 w g→base≤g∧g<w.heap.size:=by
 intro g hg;obtain ⟨sa,sc,h1,h2⟩:=h.l;exact h2.lt g (hg.of h1)
theorem BkI.lt12 {base bk:Nat}{es ps:List Ent}{w:World}(h:BkI base bk es ps w):∀ g,OwnB bk 12 w g→base≤g∧g<w.heap.size:=by
 intro g hg;obtain ⟨sa,sc,h1,h2⟩:=h.p;exact h2.lt g (hg.of h1)
theorem BkI.span {base bk:Nat}{es ps:List Ent}{w:World}(h:BkI base bk es ps w):∀ g,BkP bk es ps w g→base≤g∧g<w.heap.size:=by
 rintro g (rfl|hg|hg|hg|hg)
 ·exact ⟨h.bs,h.lt⟩
 ·exact h.lt1 g hg
 ·exact h.lt12 g hg
 ·exact h.ltE g hg
 ·exact h.ltP g hg
theorem BkI.chg {base bk:Nat}{es ps:List Ent}{w w':World}{S:Nat→Prop}(h:BkI base bk es ps w)(c:Chg w w' S)(hs:∀ g,BkP bk es ps w g→¬S g):BkI base bk es ps w'∧∀ g,BkP bk es ps w' g↔BkP bk es ps w g:=by
 have hbk:w'.heap[bk]? = w.heap[bk]?:=c.block bk h.lt (hs bk (.inl rfl));have hc:∀ i,w'.cell? ⟨bk,i,none⟩=w.cell? ⟨bk,i,none⟩:=fun i=>World.cell?_of_block hbk;have o1:∀ g,OwnB bk 1 w' g↔OwnB bk 1 w g:=fun g=>OwnB.same (hc 1);have o2:∀ g,OwnB bk 12 w' g↔OwnB bk 12 w g:=fun g=>OwnB.same (hc 12)
 refine ⟨⟨Nat.lt_of_lt_of_le h.lt c.size,h.bs,(hc 0).trans h.n,?_,?_,fun i=>(World.frozen?_of_block hbk).trans (h.f i),fun i a b d e=>(hc i).trans (h.z i a b d e),
  fun i hi=>?_,fun i hi=>?_,h.D,h.DP,fun g hg=>?_,fun g hg=>h.s2 g ((o2 g).1 hg),h.s3,h.s4,h.ne,h.np⟩,fun g=>?_⟩
 ·obtain ⟨sa,sc,h1,h2⟩:=h.l
  exact ⟨sa,sc,(hc 1).trans h1,c.row h2 fun g hg=>hs g (.inr (.inl ⟨_,_,_,h1,hg⟩))⟩
 ·obtain ⟨sa,sc,h1,h2⟩:=h.p
  exact ⟨sa,sc,(hc 12).trans h1,c.row h2 fun g hg=>hs g (.inr (.inr (.inl ⟨_,_,_,h1,hg⟩)))⟩
 ·obtain ⟨xs,hx⟩:=h.L i hi
  exact ⟨xs,c.row hx fun g hg=>hs g (.inr (.inr (.inr (.inl ⟨i,hi,hg⟩))))⟩
 ·obtain ⟨xs,hx⟩:=h.LP i hi
  exact ⟨xs,c.row hx fun g hg=>hs g (.inr (.inr (.inr (.inr ⟨i,hi,hg⟩))))⟩
 ·obtain ⟨a,b,d,e⟩:=h.s1 g ((o1 g).1 hg)
  exact ⟨a,fun x=>b ((o2 g).1 x),d,e⟩
 ·unfold BkP
  rw [o1,o2]
theorem BkI.ext {base bk:Nat}{es ps:List Ent}{w w':World}(h:BkI base bk es ps w)(e:Ext w w'):BkI base bk es ps w':=(h.chg (Chg.of_ext e (fun _=>False)) (fun _ _ x=>x)).1
structure BkT (bk:Nat) (w w':World):Prop where
 chg:Chg w w' (fun g=>g=bk∨OwnB bk 1 w g∨OwnB bk 12 w g)
 o1:∀ g,g<w.heap.size→OwnB bk 1 w' g→OwnB bk 1 w g
 o2:∀ g,g<w.heap.size→OwnB bk 12 w' g→OwnB bk 12 w g
theorem BkT.trans {bk:Nat}{a b c:World}(h:BkT bk a b)(k:BkT bk b c):BkT bk a c:=by
 refine ⟨⟨k.chg.os.trans h.chg.os,k.chg.tape.trans h.chg.tape,k.chg.output.trans h.chg.output,nT h.chg.size k.chg.size,fun g hg hn=>?_⟩,fun g hg x=>h.o1 g hg (k.o1 g (Nat.lt_of_lt_of_le hg h.chg.size) x),fun g hg x=>h.o2 g hg (k.o2 g (Nat.lt_of_lt_of_le hg h.chg.size) x)⟩;refine (k.chg.block g (Nat.lt_of_lt_of_le hg h.chg.size) ?_).trans (h.chg.block g hg hn);rintro (x|x|x)
 ·exact hn (.inl x)
 ·exact hn (.inr (.inl (h.o1 g hg x)))
 ·exact hn (.inr (.inr (h.o2 g hg x)))
theorem BkT.of_ext {bk:Nat}{w w':World}(hb:bk<w.heap.size)(e:Ext w w'):BkT bk w w':=by
 have hc:∀ i,w'.cell? ⟨bk,i,none⟩=w.cell? ⟨bk,i,none⟩:=fun i=>World.cell?_of_block (e.block bk hb);exact ⟨Chg.of_ext e _,fun g _ x=>(OwnB.same (hc 1)).1 x,fun g _ x=>(OwnB.same (hc 12)).1 x⟩
theorem BkI.limb {base bk:Nat}{es ps:List Ent}{w w':World}{e:Ent}{sa:Option Addr}{sc:Nat}(h:BkI base bk es ps w)(he:e.n=es.length+ps.length+1)(h1:w.cell? ⟨bk,1,none⟩=some (.slice sa es.length sc))
  (k:Kept bk 1 base 135 w (.slice sa es.length sc) es e w') (hr:∃ xs,w.ownsRow base 136 1 e.l e.len xs) (hb:∀ g,e.l.ownBlock=some g→¬BkP bk es ps w g) (hn:e.n≤1000000∧e.len≤1000000) :
  BkI base bk (es++[e]) ps w'∧BkT bk w w':=by
 obtain ⟨sa',sc',c1,z0,z1,f1,r1,p1,q1⟩:=k;have hlen:(es++[e]).length=es.length+1:=by simp
 have hc12:w'.cell? ⟨bk,12,none⟩=w.cell? ⟨bk,12,none⟩:=r1 12 (by decide) (by decide);have o2:∀ g,OwnB bk 12 w' g↔OwnB bk 12 w g:=fun g=>OwnB.same hc12
 have o1:∀ g,OwnB bk 1 w' g→OwnB bk 1 w g∨w.heap.size≤g:=fun g x=>by
  have y:=x.of z1;rcases q1 with q|⟨b,q,q2⟩
  ·exact .inl ⟨_,_,_,h1,q.symm.trans y⟩
  ·have:b=g:=Option.some.inj (q.symm.trans y)
   exact .inr (by omega)
 have hS:∀ g,(g=bk∨some g=(Value.slice sa es.length sc).ownBlock)→g=bk∨OwnB bk 1 w g:=fun g x=>x.imp id fun y=>⟨_,_,_,h1,y.symm⟩
 have hnE:∀ g,Blocks es g→¬(g=bk∨some g=(Value.slice sa es.length sc).ownBlock):=fun g hg x=>by
  rcases hS g x with x|x
  ·exact (h.s3 g hg).1 x
  ·exact (h.s1 g x).2.2.1 hg
 have hnP:∀ g,Blocks ps g→¬(g=bk∨some g=(Value.slice sa es.length sc).ownBlock):=fun g hg x=>by
  rcases hS g x with x|x
  ·exact h.s4 (x ▸ hg)
  ·exact (h.s1 g x).2.2.2 hg
 have hn2:∀ g,OwnB bk 12 w g→¬(g=bk∨some g=(Value.slice sa es.length sc).ownBlock):=fun g hg x=>by
  rcases hS g x with x|x
  ·exact (h.s2 g hg).1 x
  ·exact (h.s1 g x).2.1 hg
 have hne:∀ g,e.l.ownBlock=some g→¬(g=bk∨some g=(Value.slice sa es.length sc).ownBlock):=fun g hg x=>by
  rcases hS g x with x|x
  ·exact hb g hg (.inl x)
  ·exact hb g hg (.inr (.inl x))
 have hle:∀ g,e.l.ownBlock=some g→g<w.heap.size:=fun g hg=>by
  obtain ⟨xs,hx⟩:=hr;exact (hx.lt g hg).2
 refine ⟨⟨Nat.lt_of_lt_of_le h.lt c1.size,h.bs,?_,⟨sa',sc',by rw [hlen];exact z1,by rw [hlen];exact p1⟩,?_,f1,fun i a b d x=>(r1 i a b).trans (h.z i a b d x),fun i hi=>?_,fun i hi=>?_,Je h.D fun g hg x=>hb g hg (.inr (.inr (.inr (.inl x)))),h.DP,fun g hg=>?_,fun g hg=>?_,fun g hg=>?_,h.s4,fun i hi=>?_,h.np⟩,⟨c1.mono fun g _ x=>(hS g x).imp id .inl,fun g hg x=>(o1 g x).resolve_right (by omega),fun g _ x=>(o2 g).1 x⟩⟩
 ·rw [z0,he,hlen]
  congr 3;omega
 ·obtain ⟨pa,pc,g1,g2⟩:=h.p
  exact ⟨pa,pc,hc12.trans g1,c1.row g2 fun g hg=>hn2 g ⟨_,_,_,g1,hg⟩⟩
 ·rcases Nat.lt_or_ge i es.length with hl|hl
  ·obtain ⟨xs,hx⟩:=h.L i hl
   rw [List.getElem_append_left hl];exact ⟨xs,c1.row hx fun g hg=>hnE g ⟨i,hl,hg⟩⟩
  ·have:i=es.length:=by omega
   subst this;obtain ⟨xs,hx⟩:=hr;exact ⟨xs,by simpa using c1.row hx fun g hg=>hne g hg⟩
 ·obtain ⟨xs,hx⟩:=h.LP i hi
  exact ⟨xs,c1.row hx fun g hg=>hnP g ⟨i,hi,hg⟩⟩
 ·rcases o1 g hg with x|x
  ·obtain ⟨a,b,d,f⟩:=h.s1 g x
   refine ⟨a,fun y=>b ((o2 g).1 y),fun y=>?_,f⟩;rcases blocks_snoc.1 y with y|y
   ·exact d y
   ·exact hb g y (.inr (.inl x))
  ·have hlt:=h.lt
   refine ⟨by omega,fun y=>?_,fun y=>?_,fun y=>?_⟩
   ·have:=(h.lt12 g ((o2 g).1 y)).2
    omega
   ·rcases blocks_snoc.1 y with y|y
    ·have:=(h.ltE g y).2
     omega
    ·have:=hle g y
     omega
   ·have:=(h.ltP g y).2
    omega
 ·obtain ⟨a,b,d⟩:=h.s2 g ((o2 g).1 hg)
  refine ⟨a,fun y=>?_,d⟩;rcases blocks_snoc.1 y with y|y
  ·exact b y
  ·exact hb g y (.inr (.inr (.inl ((o2 g).1 hg))))
 ·rcases blocks_snoc.1 hg with y|y
  ·exact h.s3 g y
  ·exact ⟨fun x=>hb g y (.inl x),fun x=>hb g y (.inr (.inr (.inr (.inr x))))⟩
 ·rcases Nat.lt_or_ge i es.length with hl|hl
  ·rw [List.getElem_append_left hl]
   exact h.ne i hl
  ·have:i=es.length:=by simp at hi;omega
   subst this;simpa using hn
theorem BkI.part {base bk:Nat}{es ps:List Ent}{w w':World}{e:Ent}{sa:Option Addr}{sc:Nat}(h:BkI base bk es ps w)(he:e.n=es.length+ps.length+1)(h1:w.cell? ⟨bk,12,none⟩=some (.slice sa ps.length sc))
  (k:Kept bk 12 base 131 w (.slice sa ps.length sc) ps e w') (hr:∃ xs,w.ownsRow base 58 11 e.l e.len xs) (hb:∀ g,e.l.ownBlock=some g→¬BkP bk es ps w g) (hn:e.n≤1000000∧e.len≤1000000) :
  BkI base bk es (ps++[e]) w'∧BkT bk w w':=by
 obtain ⟨sa',sc',c1,z0,z1,f1,r1,p1,q1⟩:=k;have hlen:(ps++[e]).length=ps.length+1:=by simp
 have hc1:w'.cell? ⟨bk,1,none⟩=w.cell? ⟨bk,1,none⟩:=r1 1 (by decide) (by decide);have o1:∀ g,OwnB bk 1 w' g↔OwnB bk 1 w g:=fun g=>OwnB.same hc1
 have o2:∀ g,OwnB bk 12 w' g→OwnB bk 12 w g∨w.heap.size≤g:=fun g x=>by
  have y:=x.of z1;rcases q1 with q|⟨b,q,q2⟩
  ·exact .inl ⟨_,_,_,h1,q.symm.trans y⟩
  ·have:b=g:=Option.some.inj (q.symm.trans y)
   exact .inr (by omega)
 have hS:∀ g,(g=bk∨some g=(Value.slice sa ps.length sc).ownBlock)→g=bk∨OwnB bk 12 w g:=fun g x=>x.imp id fun y=>⟨_,_,_,h1,y.symm⟩
 have hnE:∀ g,Blocks es g→¬(g=bk∨some g=(Value.slice sa ps.length sc).ownBlock):=fun g hg x=>by
  rcases hS g x with x|x
  ·exact (h.s3 g hg).1 x
  ·exact (h.s2 g x).2.1 hg
 have hnP:∀ g,Blocks ps g→¬(g=bk∨some g=(Value.slice sa ps.length sc).ownBlock):=fun g hg x=>by
  rcases hS g x with x|x
  ·exact h.s4 (x ▸ hg)
  ·exact (h.s2 g x).2.2 hg
 have hn1:∀ g,OwnB bk 1 w g→¬(g=bk∨some g=(Value.slice sa ps.length sc).ownBlock):=fun g hg x=>by
  rcases hS g x with x|x
  ·exact (h.s1 g hg).1 x
  ·exact (h.s1 g hg).2.1 x
 have hne:∀ g,e.l.ownBlock=some g→¬(g=bk∨some g=(Value.slice sa ps.length sc).ownBlock):=fun g hg x=>by
  rcases hS g x with x|x
  ·exact hb g hg (.inl x)
  ·exact hb g hg (.inr (.inr (.inl x)))
 have hle:∀ g,e.l.ownBlock=some g→g<w.heap.size:=fun g hg=>by
  obtain ⟨xs,hx⟩:=hr;exact (hx.lt g hg).2
 refine ⟨⟨Nat.lt_of_lt_of_le h.lt c1.size,h.bs,?_,?_,⟨sa',sc',by rw [hlen];exact z1,by rw [hlen];exact p1⟩,f1,fun i a b d x=>(r1 i a d).trans (h.z i a b d x),fun i hi=>?_,fun i hi=>?_,h.D,Je h.DP fun g hg x=>hb g hg (.inr (.inr (.inr (.inr x)))),fun g hg=>?_,fun g hg=>?_,fun g hg=>?_,fun x=>?_,h.ne,fun i hi=>?_⟩,⟨c1.mono fun g _ x=>(hS g x).imp id .inr,fun g _ x=>(o1 g).1 x,fun g hg x=>(o2 g x).resolve_right (by omega)⟩⟩
 ·rw [z0,he,hlen]
  congr 3
 ·obtain ⟨pa,pc,g1,g2⟩:=h.l
  exact ⟨pa,pc,hc1.trans g1,c1.row g2 fun g hg=>hn1 g ⟨_,_,_,g1,hg⟩⟩
 ·obtain ⟨xs,hx⟩:=h.L i hi
  exact ⟨xs,c1.row hx fun g hg=>hnE g ⟨i,hi,hg⟩⟩
 ·rcases Nat.lt_or_ge i ps.length with hl|hl
  ·obtain ⟨xs,hx⟩:=h.LP i hl
   rw [List.getElem_append_left hl];exact ⟨xs,c1.row hx fun g hg=>hnP g ⟨i,hl,hg⟩⟩
  ·have:i=ps.length:=by simp at hi;omega
   subst this;obtain ⟨xs,hx⟩:=hr;exact ⟨xs,by simpa using c1.row hx fun g hg=>hne g hg⟩
 ·obtain ⟨a,b,d,f⟩:=h.s1 g ((o1 g).1 hg)
  have hg1:=(o1 g).1 hg;refine ⟨a,fun y=>?_,d,fun y=>?_⟩
  ·rcases o2 g y with y|y
   ·exact b y
   ·have:=(h.lt1 g hg1).2
    omega
  ·rcases blocks_snoc.1 y with y|y
   ·exact f y
   ·exact hb g y (.inr (.inl hg1))
 ·rcases o2 g hg with x|x
  ·obtain ⟨a,b,d⟩:=h.s2 g x
   refine ⟨a,b,fun y=>?_⟩;rcases blocks_snoc.1 y with y|y
   ·exact d y
   ·exact hb g y (.inr (.inr (.inl x)))
  ·have hlt:=h.lt
   refine ⟨by omega,fun y=>?_,fun y=>?_⟩
   ·have:=(h.ltE g y).2
    omega
   ·rcases blocks_snoc.1 y with y|y
    ·have:=(h.ltP g y).2
     omega
    ·have:=hle g y
     omega
 ·refine ⟨(h.s3 g hg).1,fun y=>?_⟩
  rcases blocks_snoc.1 y with y|y
  ·exact (h.s3 g hg).2 y
  ·exact hb g y (.inr (.inr (.inr (.inl hg))))
 ·rcases blocks_snoc.1 x with y|y
  ·exact h.s4 y
  ·exact hb bk y (.inl rfl)
 ·rcases Nat.lt_or_ge i ps.length with hl|hl
  ·rw [List.getElem_append_left hl]
   exact h.np i hl
  ·have:i=ps.length:=by simp at hi;omega
   subst this;simpa using hn
def AskQ (w:World)(g M:Nat)(es:List (PD×Value))(l:Value)(rs:List (PD×Value))(e:Ending)(w':World):Prop:=
 ∃ a n k es' rs',e=.returned (.tuple #[.agg #[.bool false,.slice a n k],.bool true])∧Two w' g M es' (.slice a n k) rs'∧Chg w w' (· = M)∧∀ j,twoB g M es' (.slice a n k) rs' j→twoB g M es l rs j∨w.heap.size≤j
theorem AskQ.stay {w w':World}{g M:Nat}{es:List (PD×Value)}{a:Option Addr}{n k:Nat}{rs:List (PD×Value)}(h:Two w g M es (.slice a n k) rs)(e:Ext w w'):AskQ w g M es (.slice a n k) rs (.returned (.tuple #[.agg #[.bool false,.slice a n k],.bool true])) w':=
 ⟨_,_,_,es,rs,rfl,h.ext e,Chg.of_ext e _,fun _ hk=>.inl hk⟩
theorem Ig {w:World}{M:Nat}{es:List (PD×Value)}(h:MapP w M es){a:Addr}{v:Value}(hc:w.cell? a=some v):a.block≠M:=by
 intro e;obtain ⟨x,clock,hb,_⟩:=h;subst e;simp [World.cell?,hb] at hc
theorem AnyR.chg {w w':World}{v:Value}{b:Bool}{l:List Nat}{S:Nat→Prop}(h:AnyR w v b l)(c:Chg w w' S)(hs:∀ (a:Addr) u,w.cell? a=some u→¬S a.block):AnyR w' v b l:=by
 obtain ⟨a,k,h1,h2,h3,d,o,h4,h5⟩:=h;exact ⟨a,k,h1,h2,h3,d,o,h4,fun j hj=>c.cell (h5 j hj) (hs _ _ (h5 j hj))⟩
theorem AnyL.chg {w w':World}{v:Value}{b1 b2:Bool}{l1 l2:List Nat}{S:Nat→Prop}(h:AnyL w v b1 l1 b2 l2)(c:Chg w w' S)(hs:∀ (a:Addr) u,w.cell? a=some u→¬S a.block):AnyL w' v b1 l1 b2 l2:=by
 obtain ⟨a1,c1,a2,c2,h1,h2,h3,h4,h5⟩:=h;exact ⟨a1,c1,a2,c2,h1,h2,h3,h4.chg c hs,h5.chg c hs⟩
theorem TwG.any {w:World}{g1 g2:Nat}{l1 l2:List Nat}(t1:TwG w g1 l1)(t2:TwG w g2 l2)(k1:l1.length≤4294967296)(k2:l2.length≤4294967296)(b1 b2:Bool) :
  AnyL w (.agg #[.bool b1,.slice (some ⟨g1,0,none⟩) l1.length (l1.length+1),.bool b2,.slice (some ⟨g2,0,none⟩) l2.length (l2.length+1)]) b1 l1 b2 l2:=by
 have key:∀ {g:Nat} {l:List Nat} (b:Bool),TwG w g l→AnyR w (.agg #[.bool b,.slice (some ⟨g,0,none⟩) l.length (l.length+1)]) b l:=by
  intro g l b t;refine ⟨_,_,rfl,t.1,Nat.le_succ _,g,0,fun _=>rfl,fun j hj=>?_⟩;have hj2:j<l.length:=by rwa [Ah] at hj
  simp only [World.cell?,t.2,Nat.zero_add];simp [limV,List.getElem?_append,hj2]
 exact ⟨_,_,_,_,rfl,k1,k2,key b1 t1,key b2 t2⟩
theorem TwG.chg {w w':World}{g:Nat}{l:List Nat}{S:Nat→Prop}(h:TwG w g l)(c:Chg w w' S)(hs:¬S g):TwG w' g l:=⟨h.1,(c.block g h.lt hs).trans h.2⟩
theorem Chg.high {w a b:World}{M:Nat}{S:Nat→Prop}(h:Chg w a (· = M))(k:Chg a b S)(hs:∀ j,S j→w.heap.size≤j):Chg w b (· = M):=by
 refine ⟨k.os.trans h.os,k.tape.trans h.tape,k.output.trans h.output,nT h.size k.size,fun j hj hn=>?_⟩;exact (k.block j (Nat.lt_of_lt_of_le hj h.size) (fun x=>by have:=hs j x;omega)).trans (h.block j hj hn)
theorem Mw {w:World}{v:Value}{d:PD}{g T:Nat}{old:Array Value}(h:PartR w v d)(hg:w.heap[g]? = some (.cells old T (0,0)))(ho:old.all Au=true):g∉Nu v:=by
 have key:∀ {a:Option Addr} {n c:Nat} {l:List Nat},MagR w (.slice a n c) l→g∉live1 (.slice a n c):=by
  rintro a n c l ⟨a',c',e,h1,b,off,h2,h3⟩ hm;cases e;cases l with
  | nil=>cases a<;>cases hm
  | cons x r=>
   have hl:0<(limV (x::r)).length:=by rw [Ah];simp
   have hne:limV (x::r)≠[]:=by intro e;rw [e] at hl;exact absurd hl (Nat.not_lt_zero _)
   rw [h2 hne] at hm;have e:g=b:=by simpa [live1] using hm
   subst e;have hc:=h3 0 hl;rw [Aa hg,Bs _ _ (by simp)] at hc;obtain ⟨hlt,he⟩:=Array.getElem?_eq_some_iff.1 hc;have:=Array.all_eq_true.1 ho _ hlt;rw [he] at this;cases this
 obtain ⟨b1,a1,n1,c1,b2,a2,n2,c2,b3,a3,n3,c3,b4,a4,n4,c4,rfl,⟨x1,y1,m1,d1,x2,y2,m2,d2,e1,i1,i2⟩,⟨x3,y3,m3,d3,x4,y4,m4,d4,e2,i3,i4⟩⟩:=h;cases e1;cases e2;intro hm;rcases (Mq ..).1 hm with hm|hm|hm|hm
 ·exact key i1.mag.2 hm
 ·exact key i2.mag.2 hm
 ·exact key i3.mag.2 hm
 ·exact key i4.mag.2 hm
theorem GotR.str {w w':World}{g T:Nat}{new old:Array Value}{p q:FV}{nm:ByteArray}{kd co:Int}{o:Option PD}(h:GotR w p q nm kd co o)(e:StR g new T w w')(hg:w.heap[g]? = some (.cells old T (0,0)))(ho:old.all Au=true):GotR w' p q nm kd co o:=by
 cases o with
 | none=>exact h
 | some d=>
  obtain ⟨⟨h1,h2,h3,h4⟩,h5⟩:=h;refine ⟨⟨h1,h2,h3,h4.nearL fun k hk=>e.block k (h4.liveLt k hk) ?_⟩,h5⟩;rintro rfl;exact Mw h4 hg ho hk
theorem OutP.str {lo g T:Nat}{w w':World}{new:Array Value}{s:Value}{os:List (PD×Value)}(h:OutP lo w s os)(e:StR g new T w w')(hl:g<lo):OutP lo w' s os:=by
 have hsp:=h.span;have hol:=h.ownLt;refine ⟨⟨h.row.1,?_⟩,fun x hx=>(h.part x hx).near fun k hk=>?_,h.nod,h.own⟩
 ·rcases h.row.2 with h2|⟨k,cap,cur,e2,h3,h4,r⟩
  ·exact .inl h2
  ·refine .inr ⟨k,cap,cur,e2,h3,?_,r⟩
   exact e.blk h4 (by omega)
 ·have:=hsp k (List.mem_flatMap.2 ⟨x,hx,hk⟩)
  exact e.block k this.2 (by omega)
theorem Two.flat {w:World}{g M k:Nat}{es:List (PD×Value)}{l:Value}{rs:List (PD×Value)}{old:Array Value}(h:Two w g M es l rs)(hk:w.heap[k]? = some (.cells old 28 (0,0)))(ho:old.all Au=true):¬twoB g M es l rs k:=by
 rintro ((rfl|rfl|⟨x,hx,hm⟩)|(hm|⟨x,hx,hm⟩))
 ·have:=h.cat.str
  rw [hk] at this;simp at this
 ·obtain ⟨a,clock,hb,_⟩:=h.cat.map
  rw [hk] at hb;cases hb
 ·exact Mw (h.cat.part x hx) hk ho hm
 ·rcases h.ref.row.2 with ⟨e,-⟩|⟨j,cap,cur,e,-,h4,-⟩
  ·rw [e] at hm
   cases hm
  ·rw [e] at hm
   cases hm;rw [hk] at h4;simp at h4
 ·exact Mw (h.ref.part x hx) hk ho hm
def AllP (lo:Nat)(D:List PD)(W:World)(v:Value):Prop:=∃ os,OutP lo W v os∧Am os=D
theorem Ag1 {g lo:Nat}{new:Array Value}{T:TypeId}{D:List PD}{ss:List FSpec}(hl:g<lo)(h:StableAll (StR g new T) ss):StableAll (StR g new T) (.pred (AllP lo D)::ss):=
 ⟨fun _ _ _ e ⟨os,h1,h2⟩=>⟨os,h1.str e hl,h2⟩,h⟩
def Nk (D:List PD):ByteArray×Int:=if (Bd D).length≤65536 then (⟨(Bd D).toArray⟩,0) else (⟨#[]⟩,4)
theorem Aiz (w:World)(g M:Nat)(es:List (PD×Value))(h:Cat w g M es)(ht:Tab10 w) :
  Calls Tryz.prog 27 #[.pointer (some ⟨g,0,none⟩)] w fun e w'=>e=.returned (.tuple #[.string (Nk (Am es)).1,.int .i64 (Nk (Am es)).2])∧Ext w w':=by
 refine (Aiy w g M es h ht).mono ?_;rintro e w' ⟨rfl,hE⟩;refine ⟨?_,hE⟩;unfold Nk;split<;>rfl
theorem Ag4 (w:World)(l:Value)(rs:List (PD×Value))(h:RefC w l rs) :
  Calls Tryz.prog 28 #[.agg #[.bool false,l]] w fun e w'=>e=.returned (.tuple #[.string (Nk (Am rs)).1,.int .i64 (Nk (Am rs)).2])∧Ext w w':=by
 refine (Ag3 l rs w h).mono ?_;rintro e w' ⟨rfl,hE⟩;refine ⟨?_,hE⟩;unfold Nk;split<;>rfl
theorem Vc {os es:List (PD×Value)}(h:Am os=Am es)(hok:∀ x∈es,okPD x.1):∀ y∈os,nf y.1.p≤2048∧nf y.1.q≤2048:=by
 intro y hy;have hm:y.1∈Am es:=by rw [←h];exact List.mem_map.2 ⟨y,hy,rfl⟩
 obtain ⟨z,hz,e⟩:=List.mem_map.1 hm;have:=hok z hz;rw [e] at this;exact ⟨this.1,this.2.1⟩
theorem Ye {w w1 w2 w3:World}{g M n0:Nat}{es es' rs rs':List (PD×Value)}{l l':Value}{D:List PD}(h:Two w g M es l rs)(hR:RefC w1 l' rs')(hE1:Ext w w1)(hRB:∀ j,refB l' rs' j→refB l rs j∨n0≤j)(hE2:Ext w1 w2)
  (hC:Cat w3 g M es') (hX:Chg w2 w3 (· = M)) (hCB:∀ j,catL g M es' j→catL g M es j∨n0≤j) (hD:Am rs'=D) (hD2:Am es'=D) (hn:w.heap.size≤n0) :
  Two w3 g M es' l' rs'∧Chg w w3 (· = M)∧∀ j,twoB g M es' l' rs' j→twoB g M es l rs j∨n0≤j:=by
 have hM:M<w.heap.size:=h.cat.lt M (.inr (.inl rfl))
 have hap:∀ j,refB l' rs' j→j≠M:=by
  rintro j hj rfl;rcases hRB j hj with hj|hj
  ·exact h.ap j hj rfl
  ·omega
 refine ⟨⟨hC,(hR.ext hE2).nearL fun k hk=>hX.block k ((hR.ext hE2).lt k hk) (hap k hk),hD.trans hD2.symm,hap⟩,(Chg.of_ext (hE1.trans hE2) _).trans hX,?_⟩;rintro j (hj|hj)
 ·exact (hCB j hj).imp .inl id
 ·exact (hRB j hj).imp .inr id
theorem AskQ.fin {w w3 w4:World}{g M n0:Nat}{es es' rs rs':List (PD×Value)}{l:Value}{a:Option Addr}{n k:Nat}{S:Nat→Prop}(h:Two w g M es l rs)
  (ht:Two w3 g M es' (.slice a n k) rs'∧Chg w w3 (· = M)∧∀ j,twoB g M es' (.slice a n k) rs' j→twoB g M es l rs j∨n0≤j) (hn:w.heap.size≤n0) (c:Chg w3 w4 S) (hs:∀ j,S j→w.heap.size≤j∧(j<n0∨w3.heap.size≤j)) :
  AskQ w g M es l rs (.returned (.tuple #[.agg #[.bool false,.slice a n k],.bool true])) w4:=by
 obtain ⟨h1,h2,h3⟩:=ht;refine ⟨_,_,_,es',rs',rfl,h1.chg c fun j hj hS=>?_,h2.high c fun j hj=>(hs j hj).1,fun j hj=>?_⟩
 ·obtain ⟨s1,s2⟩:=hs j hS
  have hlt:=h1.lt j hj;rcases h3 j hj with hj|hj
  ·have:=h.lt j hj
   omega
  ·omega
 ·rcases h3 j hj with hj|hj
  ·exact .inl hj
  ·exact .inr (by omega)
end Go.Proofs.YteogdoglboddhaaGreatDoor
