/-
  proof's writer: an element's words. proof: may$1 (the looks of a proof that goes round). A map from names to numbers that counts: how many names there are. search.slots. search.Check (its head and its first loop; the tail from region 9 on is open). search.Check: a space that may not be. search: named. The counting map beside new memory. search.Check: its parts (the spaces may be). search.Check of any task: 0 just if the task may be.
-/
import Derived.Test.YtlknpnommcohkaaGreatDoorKAG
import Derived.Test.YtlknpnommcohkaaGreatDoorKAE
import Derived.Maps.OwnSet
import Derived.Maps.Ext
import Derived.Test.YtlknpnommcohkaaGreatDoorKAF
import Derived.Lib.AtoiErrMem
set_option maxHeartbeats 6400000
namespace Go.Proofs.YtlknpnommcohkaaGreatDoor
set_option maxRecDepth 100000
open Go Go.RowKit Go.Proofs Go.Lib
theorem Ac5 {w:World}{g T:Nat}{cs:List Value}(hg:w.heap[g]? = some (.cells cs.toArray T (0,0))):Row w (some ⟨g,0,none⟩) cs:=by
 refine ⟨g,0,fun _=>rfl,fun j hj=>?_⟩;rw [List.getD_eq_getElem?_getD,List.getElem?_eq_getElem hj];simp [World.cell?,hg,hj]
theorem Gl {α:Type}{n g T:Nat}{R:World→Value→α→Prop}{w:World}{os:List (α×Value)}(hg:w.heap[g]? = some (.cells (cv (os.map (·.2))).toArray T (0,0)))(hR:∀ x∈os,R w x.2 x.1)(hz:∀ x∈os,x.2.cells.size=n):Ls n R w (.slice (some ⟨g,0,none⟩) os.length os.length) os:=
 ⟨⟨_,_,rfl,nR _,Ac5 hg⟩,hR,hz⟩
theorem Kw.blk {b lo:Nat}{w w':World}(h:Kw b lo w w'){g T:Nat}{cs:Array Value}(hg:w.heap[g]? = some (.cells cs T (0,0)))(hb:g≠b)(hT:T≠5):w'.heap[g]? = some (.cells cs T (0,0)):=h.k g cs T (0,0) hb hT hg
theorem IsWrt.lt {lo b:Nat}{bs:List Value}{w:World}(h:IsWrt lo b bs w):b<lo:=by
 rcases h with h|h<;>exact h.1
theorem Agk (lo b:Nat)(ws:WL)(p q:FV)(x y:Rat)(w:World)(hI:IsWrt lo b (byteCells (Ai 32 ws)) w)(hw:Ai 32 ws≠[])(hlo:lo≤w.heap.size)
  (hp:∀ W,Kw b lo w W→FracR W (.agg #[.bool p.b1,.slice p.a1 p.n1 p.c1,.bool p.b2,.slice p.a2 p.n2 p.c2]) x) (hn:nf x≤2048) (hlen:(Ai 32 ws).length≤35184372088832) (hT:∀ W,Kw b lo w W→Tab10 W) :
  Calls Tryz.prog 28 #[.pointer (some ⟨b,0,none⟩),.agg #[.int .u8 1,.bool p.b1,.slice p.a1 p.n1 p.c1,.bool p.b2,.slice p.a2 p.n2 p.c2,.bool q.b1,.slice q.a1 q.n1 q.c1,.bool q.b2,.slice q.a2 q.n2 q.c2]] w fun e w'=>e=.returned (.tuple #[])∧IsWrt lo b (byteCells (Ai 32 (ws++wdE ⟨1,x,y⟩))) w'∧Kw b lo w w':=by
 have hbl:=hI.lt;obtain ⟨w1,hw1⟩:=nmE (w.alloc (.cells #[.int .u8 1,.bool p.b1,.slice p.a1 p.n1 p.c1,.bool p.b2,.slice p.a2 p.n2 p.c2,.bool q.b1,.slice q.a1 q.n1 q.c1,.bool q.b2,.slice q.a2 q.n2 q.c2] 72));have hE1:=aLe1 hw1;have z1:=aL10 hw1;have hsz1:=aLs1 hw1;obtain ⟨w2,hw2⟩:=nmE (w1.alloc (.cells #[.bool p.b1,.slice p.a1 p.n1 p.c1,.bool p.b2,.slice p.a2 p.n2 p.c2] 28));have hE2:=aLe1 hw2;have z2:w2.heap[w.heap.size+1]? = some (.cells #[.bool p.b1,.slice p.a1 p.n1 p.c1,.bool p.b2,.slice p.a2 p.n2 p.c2] 28 (0,0)):=by rw [hw2,←hsz1];exact heap_alloc_new _ _
 have hE:=hE1.trans hE2
 have KP:=No lo b ws (Bm 1) (.slice (some ⟨w.heap.size+1,0,none⟩) 1 1) [(x,.agg #[.bool p.b1,.slice p.a1 p.n1 p.c1,.bool p.b2,.slice p.a2 p.n2 p.c2])] w2 (hI.ext hE) (.inr hw) (nT hlo hE.size)
  (fun W hW=>Gl (os:=[(x,.agg #[.bool p.b1,.slice p.a1 p.n1 p.c1,.bool p.b2,.slice p.a2 p.n2 p.c2])]) (hW.blk z2 (by omega) (by decide)) (fun z hz=>by rw [List.mem_singleton.1 hz];exact hp W ((Kw.of _ _ hE).trans hW)) (fun z hz=>by rw [List.mem_singleton.1 hz];rfl))
  (fun z hz=>by rw [List.mem_singleton.1 hz];exact hn) (by have:(Bm 1).length≤7:=Ez 1;simp;omega) (fun W hW=>hT W ((Kw.of _ _ hE).trans hW))
 have KP:Hid (Calls Tryz.prog 25 #[.pointer (some ⟨b,0,none⟩),.string ⟨#[115,112,97,99,101]⟩,.slice (some ⟨w.heap.size+1,0,none⟩) 1 1] w2 fun e w'=>e=.returned (.tuple #[])∧IsWrt lo b (byteCells (Ai 32 (ws++wdE ⟨1,x,y⟩))) w'∧Kw b lo w2 w'):=KP;obtain ⟨y0,-⟩:=ceL1 z1;replace hE:=mK hE;replace z1:=mK z1;replace hw1:=mK hw1;replace hw2:=mK hw2;replace hsz1:=mK hsz1;clear hI hw hlo hp hn hlen hT hE1 hE2 z2;go_enter Tryz.func28,Tryz.ntmps28;have tok:Tok 0:=.mk _
 go_wp2_with (first
  | (replace tok:Tok 1:=nxT 0 tok;rw [←hw1.out])
  | (replace tok:Tok 2:=nxT 1 tok;refine Ap (by rfl) 28 (.tmp 9) rfl (w.heap.size) 1 rfl 72 #[.int .u8 1,.bool p.b1,.slice p.a1 p.n1 p.c1,.bool p.b2,.slice p.a2 p.n2 p.c2,.bool q.b1,.slice q.a1 q.n1 q.c1,.bool q.b2,.slice q.a2 q.n2 q.c2] #[.bool p.b1,.slice p.a1 p.n1 p.c1,.bool p.b2,.slice p.a2 p.n2 p.c2] (0,0) _ z1.out rfl Tryz.underlying28 rfl (by kernel_rfl) ?_)
  | ((have _t:Tok 2:=tok);clear _t;clear tok;go_at_call 25;rw [←hw2.out,hsz1.out];refine KP.out.mono ?_;rintro e w3 ⟨rfl,hI3,hK3⟩;replace hI3:=mK hI3;replace hK3:=mK hK3))
 go_end0;exact ⟨rfl,hI3.out,(Kw.of _ _ hE.out).trans hK3.out⟩
theorem Agj (lo b:Nat)(ws:WL)(p q:FV)(x y:Rat)(w:World)(hI:IsWrt lo b (byteCells (Ai 32 ws)) w)(hw:Ai 32 ws≠[])(hlo:lo≤w.heap.size)
  (hp:∀ W,Kw b lo w W→FracR W (.agg #[.bool p.b1,.slice p.a1 p.n1 p.c1,.bool p.b2,.slice p.a2 p.n2 p.c2]) x) (hn:nf x≤2048) (hlen:(Ai 32 ws).length≤35184372088832) (hT:∀ W,Kw b lo w W→Tab10 W) :
  Calls Tryz.prog 28 #[.pointer (some ⟨b,0,none⟩),.agg #[.int .u8 2,.bool p.b1,.slice p.a1 p.n1 p.c1,.bool p.b2,.slice p.a2 p.n2 p.c2,.bool q.b1,.slice q.a1 q.n1 q.c1,.bool q.b2,.slice q.a2 q.n2 q.c2]] w fun e w'=>e=.returned (.tuple #[])∧IsWrt lo b (byteCells (Ai 32 (ws++wdE ⟨2,x,y⟩))) w'∧Kw b lo w w':=by
 have hbl:=hI.lt;obtain ⟨w1,hw1⟩:=nmE (w.alloc (.cells #[.int .u8 2,.bool p.b1,.slice p.a1 p.n1 p.c1,.bool p.b2,.slice p.a2 p.n2 p.c2,.bool q.b1,.slice q.a1 q.n1 q.c1,.bool q.b2,.slice q.a2 q.n2 q.c2] 72));have hE1:=aLe1 hw1;have z1:=aL10 hw1;have hsz1:=aLs1 hw1;obtain ⟨w2,hw2⟩:=nmE (w1.alloc (.cells #[.bool p.b1,.slice p.a1 p.n1 p.c1,.bool p.b2,.slice p.a2 p.n2 p.c2] 28));have hE2:=aLe1 hw2;have z2:w2.heap[w.heap.size+1]? = some (.cells #[.bool p.b1,.slice p.a1 p.n1 p.c1,.bool p.b2,.slice p.a2 p.n2 p.c2] 28 (0,0)):=by rw [hw2,←hsz1];exact heap_alloc_new _ _
 have hE:=hE1.trans hE2
 have KP:=No lo b ws (Bm 2) (.slice (some ⟨w.heap.size+1,0,none⟩) 1 1) [(x,.agg #[.bool p.b1,.slice p.a1 p.n1 p.c1,.bool p.b2,.slice p.a2 p.n2 p.c2])] w2 (hI.ext hE) (.inr hw) (nT hlo hE.size)
  (fun W hW=>Gl (os:=[(x,.agg #[.bool p.b1,.slice p.a1 p.n1 p.c1,.bool p.b2,.slice p.a2 p.n2 p.c2])]) (hW.blk z2 (by omega) (by decide)) (fun z hz=>by rw [List.mem_singleton.1 hz];exact hp W ((Kw.of _ _ hE).trans hW)) (fun z hz=>by rw [List.mem_singleton.1 hz];rfl))
  (fun z hz=>by rw [List.mem_singleton.1 hz];exact hn) (by have:(Bm 2).length≤7:=Ez 2;simp;omega) (fun W hW=>hT W ((Kw.of _ _ hE).trans hW))
 have KP:Hid (Calls Tryz.prog 25 #[.pointer (some ⟨b,0,none⟩),.string ⟨#[108,101,110,115]⟩,.slice (some ⟨w.heap.size+1,0,none⟩) 1 1] w2 fun e w'=>e=.returned (.tuple #[])∧IsWrt lo b (byteCells (Ai 32 (ws++wdE ⟨2,x,y⟩))) w'∧Kw b lo w2 w'):=KP;obtain ⟨y0,-⟩:=ceL1 z1;replace hE:=mK hE;replace z1:=mK z1;replace hw1:=mK hw1;replace hw2:=mK hw2;replace hsz1:=mK hsz1;clear hI hw hlo hp hn hlen hT hE1 hE2 z2;go_enter Tryz.func28,Tryz.ntmps28;have tok:Tok 0:=.mk _
 go_wp2_with (first
  | (replace tok:Tok 1:=nxT 0 tok;rw [←hw1.out])
  | (replace tok:Tok 2:=nxT 1 tok;refine Ap (by rfl) 28 (.tmp 16) rfl (w.heap.size) 1 rfl 72 #[.int .u8 2,.bool p.b1,.slice p.a1 p.n1 p.c1,.bool p.b2,.slice p.a2 p.n2 p.c2,.bool q.b1,.slice q.a1 q.n1 q.c1,.bool q.b2,.slice q.a2 q.n2 q.c2] #[.bool p.b1,.slice p.a1 p.n1 p.c1,.bool p.b2,.slice p.a2 p.n2 p.c2] (0,0) _ z1.out rfl Tryz.underlying28 rfl (by kernel_rfl) ?_)
  | ((have _t:Tok 2:=tok);clear _t;clear tok;go_at_call 25;rw [←hw2.out,hsz1.out];refine KP.out.mono ?_;rintro e w3 ⟨rfl,hI3,hK3⟩;replace hI3:=mK hI3;replace hK3:=mK hK3))
 go_end0;exact ⟨rfl,hI3.out,(Kw.of _ _ hE.out).trans hK3.out⟩
theorem Agi (lo b:Nat)(ws:WL)(p q:FV)(x y:Rat)(w:World)(hI:IsWrt lo b (byteCells (Ai 32 ws)) w)(hw:Ai 32 ws≠[])(hlo:lo≤w.heap.size)
  (hp:∀ W,Kw b lo w W→FracR W (.agg #[.bool p.b1,.slice p.a1 p.n1 p.c1,.bool p.b2,.slice p.a2 p.n2 p.c2]) x∧FracR W (.agg #[.bool q.b1,.slice q.a1 q.n1 q.c1,.bool q.b2,.slice q.a2 q.n2 q.c2]) y) (hn:nf x≤2048∧nf y≤2048) (hlen:(Ai 32 ws).length≤35184372088832) (hT:∀ W,Kw b lo w W→Tab10 W) :
  Calls Tryz.prog 28 #[.pointer (some ⟨b,0,none⟩),.agg #[.int .u8 3,.bool p.b1,.slice p.a1 p.n1 p.c1,.bool p.b2,.slice p.a2 p.n2 p.c2,.bool q.b1,.slice q.a1 q.n1 q.c1,.bool q.b2,.slice q.a2 q.n2 q.c2]] w fun e w'=>e=.returned (.tuple #[])∧IsWrt lo b (byteCells (Ai 32 (ws++wdE ⟨3,x,y⟩))) w'∧Kw b lo w w':=by
 have hbl:=hI.lt;obtain ⟨w1,hw1⟩:=nmE (w.alloc (.cells #[.int .u8 3,.bool p.b1,.slice p.a1 p.n1 p.c1,.bool p.b2,.slice p.a2 p.n2 p.c2,.bool q.b1,.slice q.a1 q.n1 q.c1,.bool q.b2,.slice q.a2 q.n2 q.c2] 72));have hE1:=aLe1 hw1;have z1:=aL10 hw1;have hsz1:=aLs1 hw1;obtain ⟨w2,hw2⟩:=nmE (w1.alloc (.cells #[.bool p.b1,.slice p.a1 p.n1 p.c1,.bool p.b2,.slice p.a2 p.n2 p.c2,.bool q.b1,.slice q.a1 q.n1 q.c1,.bool q.b2,.slice q.a2 q.n2 q.c2] 28));have hE2:=aLe1 hw2;have z2:w2.heap[w.heap.size+1]? = some (.cells #[.bool p.b1,.slice p.a1 p.n1 p.c1,.bool p.b2,.slice p.a2 p.n2 p.c2,.bool q.b1,.slice q.a1 q.n1 q.c1,.bool q.b2,.slice q.a2 q.n2 q.c2] 28 (0,0)):=by rw [hw2,←hsz1];exact heap_alloc_new _ _
 have hE:=hE1.trans hE2
 have KP:=No lo b ws (Bm 3) (.slice (some ⟨w.heap.size+1,0,none⟩) 2 2) [(x,.agg #[.bool p.b1,.slice p.a1 p.n1 p.c1,.bool p.b2,.slice p.a2 p.n2 p.c2]),(y,.agg #[.bool q.b1,.slice q.a1 q.n1 q.c1,.bool q.b2,.slice q.a2 q.n2 q.c2])] w2 (hI.ext hE) (.inr hw) (nT hlo hE.size)
  (fun W hW=>Gl (os:=[(x,.agg #[.bool p.b1,.slice p.a1 p.n1 p.c1,.bool p.b2,.slice p.a2 p.n2 p.c2]),(y,.agg #[.bool q.b1,.slice q.a1 q.n1 q.c1,.bool q.b2,.slice q.a2 q.n2 q.c2])]) (hW.blk z2 (by omega) (by decide)) (fun z hz=>by
   have:=hp W ((Kw.of _ _ hE).trans hW);simp only [List.mem_cons,List.not_mem_nil,or_false] at hz;rcases hz with rfl|rfl
   ·exact this.1
   ·exact this.2) (fun z hz=>by
   simp only [List.mem_cons,List.not_mem_nil,or_false] at hz
   rcases hz with rfl|rfl<;>rfl))
  (fun z hz=>by
   simp only [List.mem_cons,List.not_mem_nil,or_false] at hz;rcases hz with rfl|rfl
   ·exact hn.1
   ·exact hn.2) (by have:(Bm 3).length≤7:=Ez 3;simp;omega) (fun W hW=>hT W ((Kw.of _ _ hE).trans hW))
 have KP:Hid (Calls Tryz.prog 25 #[.pointer (some ⟨b,0,none⟩),.string ⟨#[115,108,97,98]⟩,.slice (some ⟨w.heap.size+1,0,none⟩) 2 2] w2 fun e w'=>e=.returned (.tuple #[])∧IsWrt lo b (byteCells (Ai 32 (ws++wdE ⟨3,x,y⟩))) w'∧Kw b lo w2 w'):=KP;obtain ⟨y0,-⟩:=ceL1 z1;replace hE:=mK hE;replace z1:=mK z1;replace hw1:=mK hw1;replace hw2:=mK hw2;replace hsz1:=mK hsz1;clear hI hw hlo hp hn hlen hT hE1 hE2 z2;go_enter Tryz.func28,Tryz.ntmps28;have tok:Tok 0:=.mk _
 go_wp2_with (first
  | (replace tok:Tok 1:=nxT 0 tok;rw [←hw1.out])
  | (replace tok:Tok 2:=nxT 1 tok;refine Ap (by rfl) 28 (.tmp 23) rfl (w.heap.size) 1 rfl 72 #[.int .u8 3,.bool p.b1,.slice p.a1 p.n1 p.c1,.bool p.b2,.slice p.a2 p.n2 p.c2,.bool q.b1,.slice q.a1 q.n1 q.c1,.bool q.b2,.slice q.a2 q.n2 q.c2] #[.bool p.b1,.slice p.a1 p.n1 p.c1,.bool p.b2,.slice p.a2 p.n2 p.c2] (0,0) _ z1.out rfl Tryz.underlying28 rfl (by kernel_rfl) ?_)
  | (replace tok:Tok 3:=nxT 2 tok;refine Ap (by rfl) 28 (.tmp 25) rfl (w.heap.size) 5 rfl 72 #[.int .u8 3,.bool p.b1,.slice p.a1 p.n1 p.c1,.bool p.b2,.slice p.a2 p.n2 p.c2,.bool q.b1,.slice q.a1 q.n1 q.c1,.bool q.b2,.slice q.a2 q.n2 q.c2] #[.bool q.b1,.slice q.a1 q.n1 q.c1,.bool q.b2,.slice q.a2 q.n2 q.c2] (0,0) _ z1.out rfl Tryz.underlying28 rfl (by kernel_rfl) ?_)
  | ((have _t:Tok 3:=tok);clear _t;clear tok;go_at_call 25;rw [←hw2.out,hsz1.out];refine KP.out.mono ?_;rintro e w3 ⟨rfl,hI3,hK3⟩;replace hI3:=mK hI3;replace hK3:=mK hK3))
 go_end0;exact ⟨rfl,hI3.out,(Kw.of _ _ hE.out).trans hK3.out⟩
theorem Agh (lo b:Nat)(ws:WL)(p q:FV)(x y:Rat)(w:World)(hI:IsWrt lo b (byteCells (Ai 32 ws)) w)(hw:Ai 32 ws≠[])(hlo:lo≤w.heap.size)
  (hp:∀ W,Kw b lo w W→FracR W (.agg #[.bool p.b1,.slice p.a1 p.n1 p.c1,.bool p.b2,.slice p.a2 p.n2 p.c2]) x∧FracR W (.agg #[.bool q.b1,.slice q.a1 q.n1 q.c1,.bool q.b2,.slice q.a2 q.n2 q.c2]) y) (hn:nf x≤2048∧nf y≤2048) (hlen:(Ai 32 ws).length≤35184372088832) (hT:∀ W,Kw b lo w W→Tab10 W) :
  Calls Tryz.prog 28 #[.pointer (some ⟨b,0,none⟩),.agg #[.int .u8 4,.bool p.b1,.slice p.a1 p.n1 p.c1,.bool p.b2,.slice p.a2 p.n2 p.c2,.bool q.b1,.slice q.a1 q.n1 q.c1,.bool q.b2,.slice q.a2 q.n2 q.c2]] w fun e w'=>e=.returned (.tuple #[])∧IsWrt lo b (byteCells (Ai 32 (ws++wdE ⟨4,x,y⟩))) w'∧Kw b lo w w':=by
 have hbl:=hI.lt;obtain ⟨w1,hw1⟩:=nmE (w.alloc (.cells #[.int .u8 4,.bool p.b1,.slice p.a1 p.n1 p.c1,.bool p.b2,.slice p.a2 p.n2 p.c2,.bool q.b1,.slice q.a1 q.n1 q.c1,.bool q.b2,.slice q.a2 q.n2 q.c2] 72));have hE1:=aLe1 hw1;have z1:=aL10 hw1;have hsz1:=aLs1 hw1;obtain ⟨w2,hw2⟩:=nmE (w1.alloc (.cells #[.bool p.b1,.slice p.a1 p.n1 p.c1,.bool p.b2,.slice p.a2 p.n2 p.c2,.bool q.b1,.slice q.a1 q.n1 q.c1,.bool q.b2,.slice q.a2 q.n2 q.c2] 28));have hE2:=aLe1 hw2;have z2:w2.heap[w.heap.size+1]? = some (.cells #[.bool p.b1,.slice p.a1 p.n1 p.c1,.bool p.b2,.slice p.a2 p.n2 p.c2,.bool q.b1,.slice q.a1 q.n1 q.c1,.bool q.b2,.slice q.a2 q.n2 q.c2] 28 (0,0)):=by rw [hw2,←hsz1];exact heap_alloc_new _ _
 have hE:=hE1.trans hE2
 have KP:=No lo b ws (Bm 4) (.slice (some ⟨w.heap.size+1,0,none⟩) 2 2) [(x,.agg #[.bool p.b1,.slice p.a1 p.n1 p.c1,.bool p.b2,.slice p.a2 p.n2 p.c2]),(y,.agg #[.bool q.b1,.slice q.a1 q.n1 q.c1,.bool q.b2,.slice q.a2 q.n2 q.c2])] w2 (hI.ext hE) (.inr hw) (nT hlo hE.size)
  (fun W hW=>Gl (os:=[(x,.agg #[.bool p.b1,.slice p.a1 p.n1 p.c1,.bool p.b2,.slice p.a2 p.n2 p.c2]),(y,.agg #[.bool q.b1,.slice q.a1 q.n1 q.c1,.bool q.b2,.slice q.a2 q.n2 q.c2])]) (hW.blk z2 (by omega) (by decide)) (fun z hz=>by
   have:=hp W ((Kw.of _ _ hE).trans hW);simp only [List.mem_cons,List.not_mem_nil,or_false] at hz;rcases hz with rfl|rfl
   ·exact this.1
   ·exact this.2) (fun z hz=>by
   simp only [List.mem_cons,List.not_mem_nil,or_false] at hz
   rcases hz with rfl|rfl<;>rfl))
  (fun z hz=>by
   simp only [List.mem_cons,List.not_mem_nil,or_false] at hz;rcases hz with rfl|rfl
   ·exact hn.1
   ·exact hn.2) (by have:(Bm 4).length≤7:=Ez 4;simp;omega) (fun W hW=>hT W ((Kw.of _ _ hE).trans hW))
 have KP:Hid (Calls Tryz.prog 25 #[.pointer (some ⟨b,0,none⟩),.string ⟨#[115,117,114,102,97,99,101]⟩,.slice (some ⟨w.heap.size+1,0,none⟩) 2 2] w2 fun e w'=>e=.returned (.tuple #[])∧IsWrt lo b (byteCells (Ai 32 (ws++wdE ⟨4,x,y⟩))) w'∧Kw b lo w2 w'):=KP;obtain ⟨y0,-⟩:=ceL1 z1;replace hE:=mK hE;replace z1:=mK z1;replace hw1:=mK hw1;replace hw2:=mK hw2;replace hsz1:=mK hsz1;clear hI hw hlo hp hn hlen hT hE1 hE2 z2;go_enter Tryz.func28,Tryz.ntmps28;have tok:Tok 0:=.mk _
 go_wp2_with (first
  | (replace tok:Tok 1:=nxT 0 tok;rw [←hw1.out])
  | (replace tok:Tok 2:=nxT 1 tok;refine Ap (by rfl) 28 (.tmp 32) rfl (w.heap.size) 1 rfl 72 #[.int .u8 4,.bool p.b1,.slice p.a1 p.n1 p.c1,.bool p.b2,.slice p.a2 p.n2 p.c2,.bool q.b1,.slice q.a1 q.n1 q.c1,.bool q.b2,.slice q.a2 q.n2 q.c2] #[.bool p.b1,.slice p.a1 p.n1 p.c1,.bool p.b2,.slice p.a2 p.n2 p.c2] (0,0) _ z1.out rfl Tryz.underlying28 rfl (by kernel_rfl) ?_)
  | (replace tok:Tok 3:=nxT 2 tok;refine Ap (by rfl) 28 (.tmp 34) rfl (w.heap.size) 5 rfl 72 #[.int .u8 4,.bool p.b1,.slice p.a1 p.n1 p.c1,.bool p.b2,.slice p.a2 p.n2 p.c2,.bool q.b1,.slice q.a1 q.n1 q.c1,.bool q.b2,.slice q.a2 q.n2 q.c2] #[.bool q.b1,.slice q.a1 q.n1 q.c1,.bool q.b2,.slice q.a2 q.n2 q.c2] (0,0) _ z1.out rfl Tryz.underlying28 rfl (by kernel_rfl) ?_)
  | ((have _t:Tok 3:=tok);clear _t;clear tok;go_at_call 25;rw [←hw2.out,hsz1.out];refine KP.out.mono ?_;rintro e w3 ⟨rfl,hI3,hK3⟩;replace hI3:=mK hI3;replace hK3:=mK hK3))
 go_end0;exact ⟨rfl,hI3.out,(Kw.of _ _ hE.out).trans hK3.out⟩
theorem Agg (lo b:Nat)(ws:WL)(p q:FV)(x y:Rat)(w:World)(hI:IsWrt lo b (byteCells (Ai 32 ws)) w)(hw:Ai 32 ws≠[])(hlo:lo≤w.heap.size)
  (hlen:(Ai 32 ws).length≤35184372088832) (hT:∀ W,Kw b lo w W→Tab10 W) :
  Calls Tryz.prog 28 #[.pointer (some ⟨b,0,none⟩),.agg #[.int .u8 5,.bool p.b1,.slice p.a1 p.n1 p.c1,.bool p.b2,.slice p.a2 p.n2 p.c2,.bool q.b1,.slice q.a1 q.n1 q.c1,.bool q.b2,.slice q.a2 q.n2 q.c2]] w fun e w'=>e=.returned (.tuple #[])∧IsWrt lo b (byteCells (Ai 32 (ws++wdE ⟨5,x,y⟩))) w'∧Kw b lo w w':=by
 obtain ⟨w1,hw1⟩:=nmE (w.alloc (.cells #[.int .u8 5,.bool p.b1,.slice p.a1 p.n1 p.c1,.bool p.b2,.slice p.a2 p.n2 p.c2,.bool q.b1,.slice q.a1 q.n1 q.c1,.bool q.b2,.slice q.a2 q.n2 q.c2] 72));have hE1:=aLe1 hw1;have z1:=aL10 hw1;have KP:=No lo b ws (Bm 5) (.slice none 0 0) [] w1 (hI.ext hE1) (.inr hw) (nT hlo hE1.size) (fun W hW=>Ii 4 FracR W none 0) (fun z hz=>by cases hz) (by have:(Bm 5).length≤7:=Ez 5;simp;omega) (fun W hW=>hT W ((Kw.of _ _ hE1).trans hW));have KP:Hid (Calls Tryz.prog 25 #[.pointer (some ⟨b,0,none⟩),.string ⟨#[102,108,105,112]⟩,.slice none 0 0] w1 fun e w'=>e=.returned (.tuple #[])∧IsWrt lo b (byteCells (Ai 32 (ws++wdE ⟨5,x,y⟩))) w'∧Kw b lo w1 w'):=KP;obtain ⟨y0,-⟩:=ceL1 z1;replace hE1:=mK hE1;replace hw1:=mK hw1;clear hI hw hlo hlen hT z1;go_enter Tryz.func28,Tryz.ntmps28;have tok:Tok 0:=.mk _
 go_wp2_with (first
  | (replace tok:Tok 1:=nxT 0 tok;rw [←hw1.out])
  | ((have _t:Tok 1:=tok);clear _t;clear tok;go_at_call 25;refine KP.out.mono ?_;rintro e w3 ⟨rfl,hI3,hK3⟩;replace hI3:=mK hI3;replace hK3:=mK hK3))
 go_end0;exact ⟨rfl,hI3.out,(Kw.of _ _ hE1.out).trans hK3.out⟩
theorem Sw (lo b:Nat)(ws:WL)(p q:FV)(e:EL)(w:World)(hI:IsWrt lo b (byteCells (Ai 32 ws)) w)(hw:Ai 32 ws≠[])(hlo:lo≤w.heap.size)
  (hp:∀ W,Kw b lo w W→FracR W (.agg #[.bool p.b1,.slice p.a1 p.n1 p.c1,.bool p.b2,.slice p.a2 p.n2 p.c2]) e.p∧FracR W (.agg #[.bool q.b1,.slice q.a1 q.n1 q.c1,.bool q.b2,.slice q.a2 q.n2 q.c2]) e.q) (he:okE e) (hlen:(Ai 32 ws).length≤35184372088832) (hT:∀ W,Kw b lo w W→Tab10 W) :
  Calls Tryz.prog 28 #[.pointer (some ⟨b,0,none⟩),.agg #[.int .u8 e.kd,.bool p.b1,.slice p.a1 p.n1 p.c1,.bool p.b2,.slice p.a2 p.n2 p.c2,.bool q.b1,.slice q.a1 q.n1 q.c1,.bool q.b2,.slice q.a2 q.n2 q.c2]] w fun r w'=>r=.returned (.tuple #[])∧IsWrt lo b (byteCells (Ai 32 (ws++wdE e))) w'∧Kw b lo w w':=by
 have hk:=Aba he;obtain ⟨K,x,y⟩:=e;simp only at hk hp;have hK:K=1∨K=2∨K=3∨K=4∨K=5:=by omega
 rcases hK with rfl|rfl|rfl|rfl|rfl
 ·exact Agk lo b ws p q x y w hI hw hlo (fun W h=>(hp W h).1) he.1 hlen hT
 ·exact Agj lo b ws p q x y w hI hw hlo (fun W h=>(hp W h).1) he.1 hlen hT
 ·exact Agi lo b ws p q x y w hI hw hlo hp ⟨he.1,he.2.1⟩ hlen hT
 ·exact Agh lo b ws p q x y w hI hw hlo hp ⟨he.1,he.2.1⟩ hlen hT
 ·exact Agg lo b ws p q x y w hI hw hlo hlen hT
end Go.Proofs.YtlknpnommcohkaaGreatDoor
namespace Go.Proofs.YtlknpnommcohkaaGreatDoor
set_option maxRecDepth 100000
open Go Go.RowKit Go.Proofs
theorem ls3 {α:Type}{R:World→Value→α→Prop}{w:World}{g T:Nat}{a1 a2 a3:α}{p q r:FV}(hz:w.heap[g]? = some (.cells #[.bool p.b1,.slice p.a1 p.n1 p.c1,.bool p.b2,.slice p.a2 p.n2 p.c2,.bool q.b1,.slice q.a1 q.n1 q.c1,.bool q.b2,.slice q.a2 q.n2 q.c2,.bool r.b1,.slice r.a1 r.n1 r.c1,.bool r.b2,.slice r.a2 r.n2 r.c2] T (0,0)))(h1:R w (.agg #[.bool p.b1,.slice p.a1 p.n1 p.c1,.bool p.b2,.slice p.a2 p.n2 p.c2]) a1)(h2:R w (.agg #[.bool q.b1,.slice q.a1 q.n1 q.c1,.bool q.b2,.slice q.a2 q.n2 q.c2]) a2)(h3:R w (.agg #[.bool r.b1,.slice r.a1 r.n1 r.c1,.bool r.b2,.slice r.a2 r.n2 r.c2]) a3) :
  Ls 4 R w (.slice (some ⟨g,0,none⟩) 3 3) [(a1,.agg #[.bool p.b1,.slice p.a1 p.n1 p.c1,.bool p.b2,.slice p.a2 p.n2 p.c2]),(a2,.agg #[.bool q.b1,.slice q.a1 q.n1 q.c1,.bool q.b2,.slice q.a2 q.n2 q.c2]),(a3,.agg #[.bool r.b1,.slice r.a1 r.n1 r.c1,.bool r.b2,.slice r.a2 r.n2 r.c2])]:=by
 refine Gl (os:=[(a1,.agg #[.bool p.b1,.slice p.a1 p.n1 p.c1,.bool p.b2,.slice p.a2 p.n2 p.c2]),(a2,.agg #[.bool q.b1,.slice q.a1 q.n1 q.c1,.bool q.b2,.slice q.a2 q.n2 q.c2]),(a3,.agg #[.bool r.b1,.slice r.a1 r.n1 r.c1,.bool r.b2,.slice r.a2 r.n2 r.c2])]) hz (fun z hz=>?_) (fun z hz=>?_)
 ·simp only [List.mem_cons,List.not_mem_nil,or_false] at hz
  rcases hz with rfl|rfl|rfl
  ·exact h1
  ·exact h2
  ·exact h3
 ·simp only [List.mem_cons,List.not_mem_nil,or_false] at hz
  rcases hz with rfl|rfl|rfl<;>rfl
theorem Afw (pp pl:Nat)(T:TypeId)(x:PVd)(d:AD)(PL:Bool)(w:World)(zp:w.heap[pp]? = some (.cells (pfC x) 39 (0,0)))(zl:w.heap[pl]? = some (.cells #[.bool PL] T (0,0)))(h:AnyPf w x d)(hn:d.be.length≤1099511627776) :
  Calls Tryz.prog 64 #[.pointer (some ⟨pp,0,none⟩),.pointer (some ⟨pl,0,none⟩)] w fun e w'=>e=.returned (.bool (decide (chkE d.be=0)&&((d.oy.isSome&&(d.ou.isSome&&d.om.isSome))&&PL)))∧Ext w w':=by
 obtain ⟨os,e1,hL⟩:=h.be;obtain ⟨a,c,e2,hc⟩:=hL.slice;have hno:os.length≤1099511627776:=by rw [←e1,List.length_map] at hn;exact hn
 have KB:=Ex x.s1 os w hno hL;rw [e1] at KB;obtain ⟨E,hE⟩:=nmE (chkE d.be);rw [←hE] at KB ⊢;have hY:=mK (fun W (e:Ext w W)=>h.fy.ext e);have hU:=mK (fun W (e:Ext w W)=>h.fu.ext e);have hM:=mK (fun W (e:Ext w W)=>h.fm.ext e)
 have y1:w.cell? ⟨pp,1,none⟩=some x.s1:=by
  simp [World.cell?,zp,pfC]
 rw [e2] at y1 KB;have y2:=mK (ceX0 zl);have hpz:=mK (fun W (e:Ext w W)=>e.blk zp);obtain ⟨kd,s1,y,u,m,st,s2,s3,tg,s4,pw,co⟩:=x;simp only [pfC] at hpz hY hU hM;simp only at e2 y1 KB;replace KB:=mK KB;replace hE:=mK hE;clear zp zl h hn e1 hL hc hno e2;by_cases h0:E=0
 ·rw [decide_eq_true h0,Bool.true_and]
  subst h0;obtain ⟨GV,hG⟩:=nmE (d.oy.isSome&&(d.ou.isSome&&d.om.isSome));rw [←hG];have KG:=fun W (e:Ext w W) g (hz:W.heap[g]? = some (.cells #[.bool y.b1,.slice y.a1 y.n1 y.c1,.bool y.b2,.slice y.a2 y.n2 y.c2,.bool u.b1,.slice u.a1 u.n1 u.c1,.bool u.b2,.slice u.a2 u.n2 u.c2,.bool m.b1,.slice m.a1 m.n1 m.c1,.bool m.b2,.slice m.a2 m.n2 m.c2] 28 (0,0)))=>Up (.slice (some ⟨g,0,none⟩) 3 3) [(d.oy,.agg #[.bool y.b1,.slice y.a1 y.n1 y.c1,.bool y.b2,.slice y.a2 y.n2 y.c2]),(d.ou,.agg #[.bool u.b1,.slice u.a1 u.n1 u.c1,.bool u.b2,.slice u.a2 u.n2 u.c2]),(d.om,.agg #[.bool m.b1,.slice m.a1 m.n1 m.c1,.bool m.b2,.slice m.a2 m.n2 m.c2])] W (by simp) (ls3 hz (hY.out W e) (hU.out W e) (hM.out W e));rw [show ([(d.oy,Value.agg #[.bool y.b1,.slice y.a1 y.n1 y.c1,.bool y.b2,.slice y.a2 y.n2 y.c2]),(d.ou,.agg #[.bool u.b1,.slice u.a1 u.n1 u.c1,.bool u.b2,.slice u.a2 u.n2 u.c2]),(d.om,.agg #[.bool m.b1,.slice m.a1 m.n1 m.c1,.bool m.b2,.slice m.a2 m.n2 m.c2])].map (·.1)).all Option.isSome=GV by rw [hG];simp] at KG;replace KG:=mK KG;clear hY hU hM hG;cases GV
  all_goals
   go_enter Tryz.func64,Tryz.ntmps64;have tok:Tok 0:=.mk _
   go_wp2_with (first
    | (replace tok:Tok 1:=nxT 0 tok;go_at_call 65;refine KB.out.mono ?_;rintro e w2 ⟨rfl,hx2⟩;(have hz2:=mK (hpz.out _ hx2));(obtain ⟨w3,hw3⟩:=nmE (w2.alloc (.cells #[.bool y.b1,.slice y.a1 y.n1 y.c1,.bool y.b2,.slice y.a2 y.n2 y.c2,.bool u.b1,.slice u.a1 u.n1 u.c1,.bool u.b2,.slice u.a2 u.n2 u.c2,.bool m.b1,.slice m.a1 m.n1 m.c1,.bool m.b2,.slice m.a2 m.n2 m.c2] 28)));(have hE3:Ext w w3:=by rw [hw3];exact hx2.al _);(have z3:=mK (aL10 hw3));replace hE3:=mK hE3;replace hw3:=mK hw3;clear hx2)
    | (replace tok:Tok 2:=nxT 1 tok;refine Ag (by rfl) 28 (.tmp 9) rfl pp 2 rfl 39 _ #[.bool y.b1,.slice y.a1 y.n1 y.c1,.bool y.b2,.slice y.a2 y.n2 y.c2] (0,0) _ hz2.out rfl Tryz.underlying28 rfl (by kernel_rfl) ?_)
    | (replace tok:Tok 3:=nxT 2 tok;refine Ag (by rfl) 28 (.tmp 12) rfl pp 6 rfl 39 _ #[.bool u.b1,.slice u.a1 u.n1 u.c1,.bool u.b2,.slice u.a2 u.n2 u.c2] (0,0) _ hz2.out rfl Tryz.underlying28 rfl (by kernel_rfl) ?_)
    | (replace tok:Tok 4:=nxT 3 tok;refine Ag (by rfl) 28 (.tmp 14) rfl pp 10 rfl 39 _ #[.bool m.b1,.slice m.a1 m.n1 m.c1,.bool m.b2,.slice m.a2 m.n2 m.c2] (0,0) _ hz2.out rfl Tryz.underlying28 rfl (by kernel_rfl) ?_)
    | (replace tok:Tok 5:=nxT 4 tok;go_at_call 66;rw [←hw3.out];refine (KG.out _ hE3.out _ z3.out).mono ?_;rintro e w4 ⟨rfl,hx4⟩;(have y4:=y2.out _ (hE3.out.trans hx4));(have hE4:=mK (hE3.out.trans hx4));clear hx4))
   go_ret;exact ⟨by simp,hE4.out⟩
 ·rw [decide_eq_false h0,Bool.false_and]
  have h0':(E==0)=false:=by rw [beq_eq_false_iff_ne];exact h0
  clear hY hU hM;go_enter Tryz.func64,Tryz.ntmps64;go_wp2_with (go_at_call 65;refine KB.out.mono ?_;rintro e w2 ⟨rfl,hx2⟩);go_ret;exact ⟨rfl,hx2⟩
def hldN (v:Value):Option (DataW Value×List MemPlace):=some (.held v,[])
def keyN (s:ByteArray):Lit:=.string s.data.toList
def entN (p:ByteArray×Value):Lit×DataW Value:=(keyN p.1,.held p.2)
def MapN (w:World)(M:Nat)(es:List (ByteArray×Value)):Prop:=w.ownsMap Tryz.prog 9 hldN M es.length (.map (es.map entN))
def isN (s:ByteArray)(p:ByteArray×Value):Bool:=p.1.data.toList==s.data.toList
theorem at_N (s:ByteArray)(z:Value)(es:List (ByteArray×Value)):(DataW.map (es.map entN)).atKey (keyN s) (.held z)=.held (((es.find? (isN s)).map (·.2)).getD z):=by
 have e:(es.map entN).find? (fun p=>p.1.sameKey (keyN s))=(es.find? (isN s)).map entN:=by
  rw [List.find?_map];rfl
 unfold DataW.atKey;simp only [e];cases es.find? (isN s)<;>rfl
theorem Zv (w:World):(zeroValue 3).run Tryz.prog w=.ok (.int .i64 0) w:=by kernel_rfl
theorem Ab0:Maps.Keyed Tryz.prog 9:=Maps.string_keyed Tryz.underlying9
theorem Ae0 {s:ByteArray}(hs:s.size≤maxLen):keyOf Tryz.prog 9 (.string s)=some (keyN s):=WideMaps.keyOf_string_mk Tryz.underlying9 hs
theorem Sb {v:Value}{d:DataW Value}{ps:List MemPlace}(h:hldN v=some (d,ps)):d=.held v:=by
 unfold hldN at h;cases h;rfl
def IntV (p:ByteArray×Value):Prop:=∃ n:Int,p.2=.int .i64 n
theorem MapN.look {w:World}{M:Nat}{es:List (ByteArray×Value)}(h:MapN w M es)(hI:∀ p∈es,IntV p)(s:ByteArray)(hs:s.size≤maxLen) :
  ∃ n:Int,(Instr.lookup 153 (.map (some M)) (.string s) false).run Tryz.prog w=.ok (.int .i64 n) w:=by
 obtain ⟨v,ps,h1,h2⟩:=World.ownsMap.lookup h Ab0 Tryz.underlying153 (Zv w) (zd:=.held (.int .i64 0)) rfl (Ae0 hs);have h3:=Sb h2;rw [at_N] at h3;cases hf:es.find? (isN s) with
 | none=>
  rw [hf] at h3;cases h3;exact ⟨0,h1⟩
 | some p=>
  rw [hf] at h3;cases h3;obtain ⟨n,e⟩:=hI p (List.mem_of_find?_eq_some hf);have e':((some p).map (·.2)).getD (Value.int .i64 0)=.int .i64 n:=e;exact ⟨n,by rw [h1,e']⟩
theorem MapN.len {w:World}{M:Nat}{es:List (ByteArray×Value)}(h:MapN w M es)(ty:TypeId):(Builtin.len_ #[153] ty #[.map (some M)]).run Tryz.prog w=.ok (.int .i64 es.length) w:=by
 have:=World.ownsMap.len h Tryz.underlying153 ty;rw [this,Maps.size_eq,List.length_map]
def insN (x:ByteArray×Value):List (ByteArray×Value)→List (ByteArray×Value)
 | []=>[x]
 | y::r=>if bytesBefore x.1.data.toList y.1.data.toList then x::y::r else y::insN x r
theorem Kp (x:ByteArray×Value):∀ es,(insN x es).length=es.length+1
 | []=>rfl
 | y::r=>by
  unfold insN
  split
  ·rfl
  ·simp [Kp x r]
theorem Cz (x:ByteArray×Value)(p:ByteArray×Value):∀ es,p∈insN x es↔p=x∨p∈es
 | []=>by simp [insN]
 | y::r=>by
  unfold insN
  split
  ·simp
  ·simp only [List.mem_cons,Cz x p r]
   constructor
   ·rintro (h|h|h)
    ·exact .inr (.inl h)
    ·exact .inl h
    ·exact .inr (.inr h)
   ·rintro (h|h|h)
    ·exact .inr (.inl h)
    ·exact .inl h
    ·exact .inr (.inr h)
theorem Sa (x:ByteArray×Value):∀ es:List (ByteArray×Value),DataW.insert (entN x) (es.map entN)=(insN x es).map entN
 | []=>rfl
 | y::r=>by
  show (if bytesBefore x.1.data.toList y.1.data.toList then entN x::entN y::r.map entN else entN y::DataW.insert (entN x) (r.map entN))=_
  unfold insN
  split
  ·rfl
  ·rw [Sa x r]
   rfl
theorem Mb {P:Program}{k M n:Nat}{w:World}{es:List (ByteArray×Value)}(h:w.ownsMap P k hldN M n (.map (es.map entN))):w.ownsMap P k hldN M es.length (.map (es.map entN)):=by
 obtain ⟨a,clock,hb,F,hs,hD⟩:=h;refine ⟨a,clock,hb,F,?_,hD⟩;have:=congrArg Maps.size hD;simp only [Maps.size_eq,List.length_map,length_sorted,Array.length_toList] at this;omega
def putN (s:ByteArray)(v:Value)(es:List (ByteArray×Value)):List (ByteArray×Value):=insN (s,v) (es.filter fun p=>!isN s p)
theorem MapN.store {w:World}{M:Nat}{es:List (ByteArray×Value)}(h:MapN w M es)(s:ByteArray)(v:Value)(hs:s.size≤maxLen)(hn:es.length<maxLen) :
  ∃ w',(Instr.mapUpdate 153 (.map (some M)) (.string s) v).run Tryz.prog w=.ok () w'∧MapN w' M (putN s v es)∧w.mapTurned w' M:=by
 obtain ⟨w',h1,h2,h3⟩:=World.ownsMap.store h Ab0 Tryz.underlying153 hn (Ae0 hs) (val:=v) (d:=.held v) (ps:=[]) rfl;refine ⟨w',h1,?_,h3⟩
 have e:(DataW.map (es.map entN)).put (keyN s) (.held v)=.map ((putN s v es).map entN):=by
  show DataW.map (DataW.insert (entN (s,v)) ((es.map entN).filter fun p=>!p.1.sameKey (keyN s)))=_
  rw [List.filter_map];have:(es.filter ((fun p=>!p.1.sameKey (keyN s)) ∘ entN)).map entN=(es.filter fun p=>!isN s p).map entN:=rfl;rw [this,Sa];rfl
 rw [e] at h2;exact Mb h2
structure CntN (ns:List (List UInt8)) (es:List (ByteArray×Value)):Prop where
 keys:∀ l:List UInt8,(∃ p∈es,p.1.data.toList=l)↔l∈ns
 nd:(es.map fun p=>p.1.data.toList).Nodup
 yes:ns.Nodup→es.length=ns.length
 no:¬ns.Nodup→es.length<ns.length
 ints:∀ p∈es,IntV p
theorem Aeh:CntN [] []:=⟨by simp,by simp,by simp,by simp,by simp⟩
theorem Us {es:List (ByteArray×Value)}(s:ByteArray)(h:(es.map fun p=>p.1.data.toList).Nodup):((∃ p∈es,p.1.data.toList=s.data.toList)→(es.filter fun p=>!isN s p).length+1=es.length)∧((¬ ∃ p∈es,p.1.data.toList=s.data.toList)→(es.filter fun p=>!isN s p)=es):=by
 have hno:∀ es:List (ByteArray×Value),(¬ ∃ p∈es,p.1.data.toList=s.data.toList)→(es.filter fun p=>!isN s p)=es:=fun es hn=>by
  rw [List.filter_eq_self];intro p hp;have:p.1.data.toList≠s.data.toList:=fun e=>hn ⟨p,hp,e⟩;simpa [isN] using this
 refine ⟨?_,hno es⟩
 induction es with
 | nil=>rintro ⟨p,hp,-⟩;cases hp
 | cons y r ih=>
  simp only [List.map_cons,List.nodup_cons] at h;rintro ⟨p,hp,e⟩;by_cases hy:y.1.data.toList=s.data.toList
  ·have h1:isN s y=true:=by simpa [isN] using hy
   have h2:¬ ∃ p∈r,p.1.data.toList=s.data.toList:=by
    rintro ⟨q,hq,e2⟩;exact h.1 (List.mem_map.2 ⟨q,hq,e2.trans hy.symm⟩)
   rw [List.filter_cons_of_neg (by simp [h1]),hno r h2];rfl
  ·have h1:isN s y=false:=by simpa [isN] using hy
   rw [List.filter_cons_of_pos (by simp [h1]),List.length_cons,List.length_cons]
   have:∃ p∈r,p.1.data.toList=s.data.toList:=by
    rcases List.mem_cons.1 hp with rfl|hp
    ·exact absurd e hy
    ·exact ⟨p,hp,e⟩
   have:=ih h.2 this;omega
theorem Kd (x:ByteArray×Value):∀ es:List (ByteArray×Value),(es.map fun p=>p.1.data.toList).Nodup→(¬ ∃ p∈es,p.1.data.toList=x.1.data.toList)→((insN x es).map fun p=>p.1.data.toList).Nodup
 | [],_,_=>by simp [insN]
 | y::r,h,hn=>by
  unfold insN
  split
  ·rw [List.map_cons,List.nodup_cons]
   refine ⟨fun hm=>?_,h⟩
   obtain ⟨p,hp,e⟩:=List.mem_map.1 hm
   exact hn ⟨p,hp,e⟩
  ·rw [List.map_cons,List.nodup_cons] at h ⊢
   refine ⟨fun hm=>?_,Kd x r h.2 fun ⟨p,hp,e⟩=>hn ⟨p,List.mem_cons_of_mem _ hp,e⟩⟩
   obtain ⟨p,hp,e⟩:=List.mem_map.1 hm
   rcases (Cz x p r).1 hp with rfl|hp
   ·exact hn ⟨y,List.mem_cons_self ..,e.symm⟩
   ·exact h.1 (List.mem_map.2 ⟨p,hp,e⟩)
theorem CntN.step {ns:List (List UInt8)}{es:List (ByteArray×Value)}(h:CntN ns es)(s:ByteArray)(n:Int):CntN (ns++[s.data.toList]) (putN s (.int .i64 n) es):=by
 obtain ⟨h1,h2⟩:=Us s h.nd;have hf:∀ p,p∈es.filter (fun p=>!isN s p)↔p∈es∧p.1.data.toList≠s.data.toList:=fun p=>by simp [isN]
 have hnew:¬ ∃ p∈es.filter (fun p=>!isN s p),p.1.data.toList=s.data.toList:=fun ⟨p,hp,e⟩=>((hf p).1 hp).2 e;have hnd:((es.filter fun p=>!isN s p).map fun p=>p.1.data.toList).Nodup:=h.nd.sublist (List.Sublist.map _ List.filter_sublist);have hl:(putN s (.int .i64 n) es).length=(es.filter fun p=>!isN s p).length+1:=Kp _ _;by_cases hs:∃ p∈es,p.1.data.toList=s.data.toList
 ·have hm:s.data.toList∈ns:=(h.keys _).1 hs
  have hle:es.length≤ns.length:=by
   by_cases hd:ns.Nodup
   ·exact Nat.le_of_eq (h.yes hd)
   ·exact Nat.le_of_lt (h.no hd)
  have hnn:¬(ns++[s.data.toList]).Nodup:=fun hd=>by
   rw [List.nodup_append] at hd;exact hd.2.2 _ hm _ (by simp) rfl
  refine ⟨fun l=>?_,Kd _ _ hnd hnew,fun hd=>absurd hd hnn,fun _=>?_,fun p hp=>?_⟩
  ·rw [List.mem_append,List.mem_singleton]
   constructor
   ·rintro ⟨p,hp,e⟩
    rcases (Cz _ p _).1 hp with rfl|hp
    ·exact .inr e.symm
    ·exact .inl ((h.keys l).1 ⟨p,((hf p).1 hp).1,e⟩)
   ·rintro (hl2|rfl)
    ·by_cases e2:l=s.data.toList
     ·exact ⟨(s,.int .i64 n),(Cz _ _ _).2 (.inl rfl),e2.symm⟩
     ·obtain ⟨p,hp,e⟩:=(h.keys l).2 hl2
      exact ⟨p,(Cz _ _ _).2 (.inr ((hf p).2 ⟨hp,fun e3=>e2 (e.symm.trans e3)⟩)),e⟩
    ·exact ⟨(s,.int .i64 n),(Cz _ _ _).2 (.inl rfl),rfl⟩
  ·have:=h1 hs
   simp only [List.length_append,List.length_singleton];omega
  ·rcases (Cz _ p _).1 hp with rfl|hp
   ·exact ⟨n,rfl⟩
   ·exact h.ints p ((hf p).1 hp).1
 ·have hm:s.data.toList∉ns:=fun hm=>hs ((h.keys _).2 hm)
  have he:=h2 hs;refine ⟨fun l=>?_,Kd _ _ hnd hnew,fun hd=>?_,fun hd=>?_,fun p hp=>?_⟩
  ·rw [List.mem_append,List.mem_singleton]
   constructor
   ·rintro ⟨p,hp,e⟩
    rcases (Cz _ p _).1 hp with rfl|hp
    ·exact .inr e.symm
    ·exact .inl ((h.keys l).1 ⟨p,((hf p).1 hp).1,e⟩)
   ·rintro (hl2|rfl)
    ·obtain ⟨p,hp,e⟩:=(h.keys l).2 hl2
     exact ⟨p,(Cz _ _ _).2 (.inr ((hf p).2 ⟨hp,fun e3=>hs ⟨p,hp,e3⟩⟩)),e⟩
    ·exact ⟨(s,.int .i64 n),(Cz _ _ _).2 (.inl rfl),rfl⟩
  ·have hd1:ns.Nodup:=(List.nodup_append.1 hd).1
   rw [hl,he,h.yes hd1];simp
  ·have hd1:¬ns.Nodup:=fun hd1=>hd (by
    rw [List.nodup_append];refine ⟨hd1,by simp,fun a ha b hb e=>?_⟩;rw [List.mem_singleton.1 hb] at e
    exact hm (e ▸ ha))
   have:=h.no hd1;rw [hl,he];simp only [List.length_append,List.length_singleton];omega
  ·rcases (Cz _ p _).1 hp with rfl|hp
   ·exact ⟨n,rfl⟩
   ·exact h.ints p ((hf p).1 hp).1
theorem Ac4 (a:Option Addr)(n c:Nat)(s3:Value)(tg:FV)(w:World)(hn:n≤1099511627776)(_hc:n≤c) :
  Calls Tryz.prog 118 #[.agg (Ct (.slice a n c) s3 tg)] w fun e w'=>e=.returned (.int .i64 ((n:Int)-1))∧Ext w w':=by
 have hE:=mK (xR w);have hW:IntKind.i64.wrap ((n:Int)-1)=(n:Int)-1:=by rw [IntKind.wrap_i64];omega
 unfold Ct;go_enter Tryz.func118,Tryz.ntmps118;go_wp2_with fail;go_ret;refine ⟨rfl,?_⟩;exact (xR w).al _
theorem Zz {n k m:Nat}(h:1≤n)(hk:k+1≤m)(hb:65536<n ^ (k+1)):¬n ^ m≤65536:=by
 have:n ^ (k+1)≤n ^ m:=Nat.pow_le_pow_right h hk;omega
theorem Xf {n k:Nat}(hn:n≤64)(hb:n ^ k≤65536):IntKind.i64.wrap (((n ^ k:Nat):Int)*(n:Int))=((n ^ (k+1):Nat):Int):=by
 have e:n ^ (k+1)=n ^ k*n:=Nat.pow_succ n k;have l:n ^ k*n≤65536*64:=Nat.mul_le_mul hb hn;have c:((n ^ k:Nat):Int)*(n:Int)=((n ^ (k+1):Nat):Int):=by rw [e,Int.natCast_mul]
 rw [c,IntKind.wrap_i64];omega
def Nv (sp:List (Option Rat))(pt:List RP)(ot:Option Rat):Bool:=
 (decide (2≤sp.length)&&(decide (sp.length≤13)&&(decide (1≤pt.length)&&(decide (pt.length≤64)&&ot.isSome)))) &&
 (sp.all posO&&(pt.all mayR&&(decide ((pt.map fun r=>r.nm.data.toList).Nodup)&&decide (pt.length ^ (sp.length-1)≤65536))))
theorem Tf (s2 s3:Value)(tg:FV)(o2:List (Option Rat×Value))(o3:List (RP×Value))(ot:Option Rat)(w:World)(hn2:o2.length≤1099511627776)(hn3:o3.length≤1099511627776)
  (h2:Ls 4 AnyF w s2 o2) (h3:Ls 11 PrtA w s3 o3) (ht:AnyF w (.agg #[.bool tg.b1,.slice tg.a1 tg.n1 tg.c1,.bool tg.b2,.slice tg.a2 tg.n2 tg.c2]) ot) (hb:¬(2≤o2.length∧o2.length≤13∧1≤o3.length∧o3.length≤64∧ot.isSome=true)) :
  Calls Tryz.prog 67 #[.agg (Ct s2 s3 tg)] w fun e w'=>e=.returned (.int .i64 1)∧Ext w w':=by
 obtain ⟨a2,c2,e2,hc2⟩:=h2.slice;obtain ⟨a3,c3,e3,hc3⟩:=h3.slice;obtain ⟨n2,hm2⟩:=nmE o2.length;obtain ⟨n3,hm3⟩:=nmE o3.length;rw [←hm2] at e2 hn2 hc2 hb;rw [←hm3] at e3 hn3 hc3 hb;subst e2 e3;obtain ⟨b1,a1,m1,d1,b2,a5,m2,d2⟩:=tg;obtain ⟨w1,hw1⟩:=nmE (w.alloc (.cells (Ct (.slice a2 n2 c2) (.slice a3 n3 c3) ⟨b1,a1,m1,d1,b2,a5,m2,d2⟩) 34));have hE:=aLe1 hw1;have z:=mK (aL10 hw1);have K:=mK (Gn _ ot w1 (ht.ext hE));clear h2 h3 ht hm2 hm3;unfold Ct at *;replace hw1:=mK hw1;replace hE:=mK hE;by_cases g1:(n2:Int)<2
 ·replace hb:=mK hb
  go_enter Tryz.func67,Tryz.ntmps67;go_wp2_with fail;go_ret;exact ⟨rfl,hw1.out ▸ hE.out⟩
 ·by_cases g2:(13:Int)<n2
  ·replace hb:=mK hb
   go_enter Tryz.func67,Tryz.ntmps67;go_wp2_with fail;go_ret;exact ⟨rfl,hw1.out ▸ hE.out⟩
  ·by_cases g3:(n3:Int)<1
   ·replace hb:=mK hb
    go_enter Tryz.func67,Tryz.ntmps67;go_wp2_with fail;go_ret;exact ⟨rfl,hw1.out ▸ hE.out⟩
   ·by_cases g4:(64:Int)<n3
    ·replace hb:=mK hb
     go_enter Tryz.func67,Tryz.ntmps67;go_wp2_with fail;go_ret;exact ⟨rfl,hw1.out ▸ hE.out⟩
    ·have ho:ot.isSome=false:=by
      cases h:ot.isSome
      ·rfl
      ·exact absurd ⟨by omega,by omega,by omega,by omega,h⟩ hb
     rw [ho] at K;replace hb:=mK hb;clear ho;go_enter Tryz.func67,Tryz.ntmps67;have tok:Tok 0:=.mk _
     go_wp2_with (first
      | (replace tok:Tok 1:=nxT 0 tok;rw [←hw1.out];refine Ag (by rfl) 28 (.tmp 32) rfl w.heap.size 2 rfl 34 _ #[.bool b1,.slice a1 m1 d1,.bool b2,.slice a5 m2 d2] (0,0) _ z.out rfl Tryz.underlying28 rfl (by kernel_rfl) ?_)
      | (replace tok:Tok 2:=nxT 1 tok;go_at_call 115;refine K.out.mono ?_;rintro e w2 ⟨rfl,hx⟩;replace hE:=mK (hE.out.trans hx);clear hx))
     go_ret;exact ⟨rfl,hE.out⟩
theorem Ov (s2 s3:Value)(tg:FV)(o2:List (Option Rat×Value))(o3:List (RP×Value))(t:Rat)(w:World)
  (h2:Ls 4 AnyF w s2 o2) (h3:Ls 11 PrtA w s3 o3) (ht:AnyF w (.agg #[.bool tg.b1,.slice tg.a1 tg.n1 tg.c1,.bool tg.b2,.slice tg.a2 tg.n2 tg.c2]) (some t)) (hb:2≤o2.length∧o2.length≤13∧1≤o3.length∧o3.length≤64) (hbad:¬ ∀ j,(hj:j<o2.length)→posO o2[j].1=true) :
  Calls Tryz.prog 67 #[.agg (Ct s2 s3 tg)] w fun e w'=>e=.returned (.int .i64 1)∧Ext w w':=by
 obtain ⟨a2,c2,e2,hc2⟩:=h2.slice;obtain ⟨a3,c3,e3,hc3⟩:=h3.slice;have H:=mK (fun W (e:Ext w W)=>Ls.ext (w':=W) h2 (fun _ _ x=>x.ext e) e);obtain ⟨n2,hm2⟩:=nmE o2.length;obtain ⟨n3,hm3⟩:=nmE o3.length;rw [←hm2] at e2 hc2 hb;rw [←hm3] at e3 hc3 hb;subst e2 e3;obtain ⟨p1,p2,p3,p4⟩:=hb;obtain ⟨b1,a1,m1,d1,b2,a5,m2,d2⟩:=tg;obtain ⟨w1,hw1⟩:=nmE (w.alloc (.cells (Ct (.slice a2 n2 c2) (.slice a3 n3 c3) ⟨b1,a1,m1,d1,b2,a5,m2,d2⟩) 34));have hE:=aLe1 hw1;have z:=mK (aL10 hw1);have hzE:=mK (fun W (e:Ext w1 W)=>e.blk z.out);have K:=Gn _ (some t) w1 (ht.ext hE);rw [show (if (some t).isSome then (0:Int) else 1)=0 from rfl] at K;replace K:=mK K;have q1:¬(n2:Int)<2:=by omega
 have q2:¬(13:Int)<n2:=by omega
 have q3:¬(n3:Int)<1:=by omega
 have q4:¬(64:Int)<n3:=by omega
 clear h2 h3 ht hm3 p3 p4;unfold Ct at *;replace hw1:=mK hw1;replace hE:=mK hE;replace hm2:=mK hm2;replace hbad:=mK hbad;go_enter Tryz.func67,Tryz.ntmps67;have tok:Tok 0:=.mk _
 go_wp2_with (first
  | (replace tok:Tok 1:=nxT 0 tok;rw [←hw1.out];refine Ag (by rfl) 28 (.tmp 32) rfl w.heap.size 2 rfl 34 _ #[.bool b1,.slice a1 m1 d1,.bool b2,.slice a5 m2 d2] (0,0) _ z.out rfl Tryz.underlying28 rfl (by kernel_rfl) ?_)
  | (replace tok:Tok 2:=nxT 1 tok;go_at_call 115;refine K.out.mono ?_;rintro e w2 ⟨rfl,hx⟩;(have hx1:=mK hx);(obtain ⟨r0,r1,r2,r3,r4,r5⟩:=ceL5 (hzE.out _ hx));replace hE:=mK (hE.out.trans hx);clear hx))
 obtain ⟨wo,hwo⟩:=nmE (w2:World);have st:Hid (∃ k:Nat,k≤n2∧Value.int .i64 0=.int .i64 k∧Ext wo w2∧∀ j,(hj:j<o2.length)→j<k→posO o2[j].1=true):=⟨0,Nat.zero_le _,rfl,hwo ▸ xR _,fun j _ hj=>absurd hj (by omega)⟩
 rw [←hwo] at hE;replace hwo:=mK hwo;go_loopw [40] (fun i wr=>∃ k:Nat,k≤n2∧i=.int .i64 k∧Ext wo wr∧∀ j,(hj:j<o2.length)→j<k→posO o2[j].1=true) (fun i _=>n2-(intOf i).toNat)
 case atStart=>exact st.out
 case round=>
  clear st;obtain ⟨k,hk,rfl,hX,hj⟩:=hrel;obtain ⟨w5,rfl⟩:=nmE (wr:World);by_cases hlt:k<n2
  ·have hkl:k<o2.length:=by rw [←hm2.out];exact hlt
   obtain ⟨b,o,c1,x1,-,hrg,hv⟩:=(H.out w5 (hE.out.trans hX)).get (by decide) hkl;rw [←hm2.out] at x1;simp only [Value.slice.injEq,true_and] at x1;obtain ⟨rfl,rfl⟩:=x1;obtain ⟨f,e0⟩:=hv.fv;obtain ⟨oo,hoo⟩:=nmE (o2[k].1);rw [←hoo] at hv;rw [e0] at hrg hv;replace hrg:w5.rangeAt b (o+k*4) [.bool f.b1,.slice f.a1 f.n1 f.c1,.bool f.b2,.slice f.a2 f.n2 f.c2]:=hrg
   have hmk:posO oo=true→∀ j,(hj:j<o2.length)→j<k+1→posO o2[j].1=true:=by
    intro ht j hjl hjk;rcases Nat.lt_or_ge j k with h|h
    ·exact hj j hjl h
    ·obtain rfl:j=k:=by omega
     rw [←hoo];exact ht
   obtain ⟨w6,hw6⟩:=nmE (w5.alloc (.cells #[.bool f.b1,.slice f.a1 f.n1 f.c1,.bool f.b2,.slice f.a2 f.n2 f.c2] 28));have hE6:=aLe1 hw6;have hv6:=hv.ext hE6;have zV:=aL10 hw6;have KC:=Gn (.agg #[.bool f.b1,.slice f.a1 f.n1 f.c1,.bool f.b2,.slice f.a2 f.n2 f.c2]) oo w6 hv6;have zE:=mK (fun W (e:Ext w6 W)=>e.blk zV);replace hmk:=mK hmk;replace hX:=mK hX;replace hj:=mK hj;replace hE6:=mK hE6;replace hw6:=mK hw6;replace zV:=mK zV;replace hrg:=mK hrg;replace hoo:=mK hoo;clear e0 hv;cases oo with
   | none=>
    rw [show (if (none:Option Rat).isSome then (0:Int) else 1)=1 from rfl] at KC;replace KC:=mK KC;clear hv6;have tok:Tok 8:=.mk _
    go_wp2_with (first
     | (replace tok:Tok 9:=nxT 8 tok;refine wpList_load_mid (by rfl) 28 (.tmp 42) rfl b (o+k*4) rfl [.bool f.b1,.slice f.a1 f.n1 f.c1,.bool f.b2,.slice f.a2 f.n2 f.c2] _ hrg.out Tryz.underlying28 rfl (by kernel_rfl) ?_)
     | (replace tok:Tok 10:=nxT 9 tok;rw [←hw6.out];refine wpList_load_row (by rfl) 28 (.tmp 4) rfl (w5.heap.size) rfl 28 #[.bool f.b1,.slice f.a1 f.n1 f.c1,.bool f.b2,.slice f.a2 f.n2 f.c2] (0,0) _ zV.out Tryz.underlying28 rfl (by kernel_rfl) ?_)
     | ((have _t:Tok 10:=tok);clear _t;clear tok;go_at_call 115;refine KC.out.mono ?_;rintro e w7 ⟨rfl,hx⟩;replace hE6:=mK (hE6.out.trans hx);clear hx))
    go_ret;exact ⟨rfl,hE.out.trans (hX.out.trans hE6.out)⟩
   | some x=>
    rw [show (if (some x).isSome then (0:Int) else 1)=0 from rfl] at KC;obtain ⟨hfr,hnx⟩:=hv6.frac;have KS:=mK (fun W (e:Ext w6 W)=>Jt (.agg #[.bool f.b1,.slice f.a1 f.n1 f.c1,.bool f.b2,.slice f.a2 f.n2 f.c2]) x W (nT hnx (by decide)) (hfr.ext e))
    have hsg:(0≤x.num→¬x.num.sign<0)∧(¬0≤x.num→x.num.sign<0):=by
     rcases Int.lt_trichotomy x.num 0 with h|h|h
     ·rw [Int.sign_eq_neg_one_of_neg h];omega
     ·rw [h];simp
     ·rw [Int.sign_eq_one_of_pos h];omega
    replace KC:=mK KC;replace hsg:=mK hsg;clear hv6 hfr hnx;by_cases hp:0≤x.num
    all_goals
     first
      | (have hs:¬x.num.sign<0:=hsg.out.1 hp)
      | (have hs:x.num.sign<0:=hsg.out.2 hp)
     generalize x.num.sign=sg at *;replace hp:=mK hp;clear hsg;have tok:Tok 8:=.mk _
     go_wp2_with (first
      | (replace tok:Tok 9:=nxT 8 tok;refine wpList_load_mid (by rfl) 28 (.tmp 42) rfl b (o+k*4) rfl [.bool f.b1,.slice f.a1 f.n1 f.c1,.bool f.b2,.slice f.a2 f.n2 f.c2] _ hrg.out Tryz.underlying28 rfl (by kernel_rfl) ?_)
      | (replace tok:Tok 10:=nxT 9 tok;rw [←hw6.out];refine wpList_load_row (by rfl) 28 (.tmp 4) rfl (w5.heap.size) rfl 28 #[.bool f.b1,.slice f.a1 f.n1 f.c1,.bool f.b2,.slice f.a2 f.n2 f.c2] (0,0) _ zV.out Tryz.underlying28 rfl (by kernel_rfl) ?_)
      | (replace tok:Tok 11:=nxT 10 tok;go_at_call 115;refine KC.out.mono ?_;rintro e w7 ⟨rfl,hx⟩;(have KS7:=mK (KS.out _ hx));(have zV7:=mK (zE.out _ hx));replace hE6:=mK (hE6.out.trans hx);clear hx)
      | (replace tok:Tok 12:=nxT 11 tok;refine Ag (by rfl) 28 (.tmp 4) rfl w5.heap.size 0 rfl 28 #[.bool f.b1,.slice f.a1 f.n1 f.c1,.bool f.b2,.slice f.a2 f.n2 f.c2] #[.bool f.b1,.slice f.a1 f.n1 f.c1,.bool f.b2,.slice f.a2 f.n2 f.c2] (0,0) _ zV7.out rfl Tryz.underlying28 rfl (by kernel_rfl) ?_)
      | ((have _t:Tok 12:=tok);clear _t;clear tok;go_at_call 116;refine KS7.out.mono ?_;rintro e w8 ⟨rfl,hx⟩;replace hE6:=mK (hE6.out.trans hx);clear hx))
     first
      | ((go_ret);(exact ⟨rfl,hE.out.trans (hX.out.trans hE6.out)⟩))
      | ((go_roundw);(case rel=>(exact ⟨k+1,by omega,by go_num,hX.out.trans hE6.out,hmk.out (decide_eq_true hp.out)⟩));(case measure=>(simp [intOf]<;>omega)))
  ·exact absurd (fun j hjl=>hj j hjl (by rw [←hm2.out] at hjl;omega)) hbad.out
theorem Aap (s:ByteArray)(w:World)(hs:s.size≤140737488355328) :
  Calls Tryz.prog 117 #[.string s] w fun e w'=>e=.returned (.bool (Eq s.data.toList))∧Ext w w':=by
 have hl:=show s.data.toList.length=s.size from Array.length_toList
 by_cases h1:s.size<1
 ·have h1':(s.size:Int)<1:=by omega
  have hn:Eq s.data.toList=false:=by
   unfold Eq;rw [decide_eq_false (by omega),Bool.false_and]
  rw [hn];clear hn hl;go_enter Tryz.func117,Tryz.ntmps117;go_wp2_with fail;go_ret;exact ⟨rfl,xR _⟩
 ·have h1':¬(s.size:Int)<1:=by omega
  by_cases h2:32<s.size
  ·have h2':(32:Int)<s.size:=by omega
   have hn:Eq s.data.toList=false:=by
    unfold Eq;rw [decide_eq_false (show ¬s.data.toList.length≤32 by omega)];simp
   rw [hn];clear hn hl;go_enter Tryz.func117,Tryz.ntmps117;go_wp2_with fail;go_ret;exact ⟨rfl,xR _⟩
  ·have h2':¬(32:Int)<s.size:=by omega
   have hlt0:0<s.size:=by omega
   obtain ⟨c0,hc0⟩:=nmE (((s[0]'hlt0).toNat:Int):Int)
   have hd:s.data.toList.headD 0=s[0]'hlt0:=by
    have e:s.data.toList≠[]:=fun e=>by rw [e] at hl;simp at hl;omega
    rw [List.headD_eq_head?_getD,List.head?_eq_getElem?];have e3:s.data[0]? = some (s.data[0]'hlt0):=Array.getElem?_eq_getElem hlt0;simp [e3];rfl
   have hnB:Eq s.data.toList=(decide (97≤c0)&&(decide (c0≤122)&&s.data.toList.all Hc)):=by
    unfold Eq;rw [hd,decide_eq_true (show 0<s.data.toList.length by omega),decide_eq_true (show s.data.toList.length≤32 by omega),Bool.true_and,Bool.true_and,hc0];congr 1
    ·exact decide_eq_decide.2 (by omega)
    ·congr 1
     exact decide_eq_decide.2 (by omega)
   rw [hnB];replace hc0:=hc0.symm;clear hnB hd;by_cases g1:c0<97
   ·rw [decide_eq_false (show ¬97≤c0 by omega),Bool.false_and]
    clear hl;go_enter Tryz.func117,Tryz.ntmps117;go_wp2_with fail;go_ret;exact ⟨rfl,xR _⟩
   ·by_cases g2:122<c0
    ·rw [decide_eq_false (show ¬c0≤122 by omega),Bool.false_and,Bool.and_false]
     clear hl;go_enter Tryz.func117,Tryz.ntmps117;go_wp2_with fail;go_ret;exact ⟨rfl,xR _⟩
    ·rw [decide_eq_true (show 97≤c0 by omega),decide_eq_true (show c0≤122 by omega),Bool.true_and,Bool.true_and]
     have kc:=Lib.run_convert_string_bytes (P:=Tryz.prog) w 9 62 5 s Tryz.underlying9 Tryz.underlying62 Tryz.underlying5;obtain ⟨w1,hw1⟩:=nmE (Lib.bytesWorld w 5 s);have hE1:Ext w w1:=by rw [hw1];exact Lib.bytesWorld_below _ _ _
     have hB:=fun j (hj:j<s.size)=>Lib.bytesWorld_cell w 5 s j hj;rw [←hw1] at kc hB;obtain ⟨n,hn⟩:=nmE s.size;rw [←hn] at hl hB kc;obtain ⟨r,hr⟩:=nmE (s.data.toList.all Hc);rw [←hr];have st:Hid (∃ k:Nat,k≤n∧Value.int .i64 0=.int .i64 k∧Ext w1 w1∧∀ j,j<k→Hc (s.data.toList.getD j 0)=true):=⟨0,Nat.zero_le _,rfl,xR _,fun j hj=>absurd hj (by omega)⟩
     replace hB:=mK hB;replace hr:=mK hr;replace hE1:=mK hE1;replace hl:=mK hl;clear hw1;go_enter Tryz.func117,Tryz.ntmps117;go_wp2_with fail;go_loopw [26] (fun i wr=>∃ k:Nat,k≤n∧i=.int .i64 k∧Ext w1 wr∧∀ j,j<k→Hc (s.data.toList.getD j 0)=true) (fun i _=>n-(intOf i).toNat)
     case atStart=>exact st.out
     case round=>
      clear st kc;obtain ⟨k,hk,rfl,hE,hj⟩:=hrel;obtain ⟨w2,rfl⟩:=nmE (wr:World);by_cases hlt:k<n
      ·have hcell:=hE.cell (hB.out k (by omega))
       obtain ⟨x,hx⟩:=nmE (s.data.toList.getD k 0);rw [←hx] at hcell;obtain ⟨m,hm⟩:=nmE ((x.toNat:Int):Int);have hm0:0≤m:=by omega
       rw [←hm] at hcell
       have hok:Hc x=true→∀ j,j<k+1→Hc (s.data.toList.getD j 0)=true:=by
        intro ht j hjk;rcases Nat.lt_or_ge j k with h|h
        ·exact hj j h
        ·obtain rfl:j=k:=by omega
         rw [←hx];exact ht
       have hno:Hc x=false→r=false:=by
        intro hf;rw [hr.out,Bool.eq_false_iff];intro ha;have hkl:k<s.data.toList.length:=by rw [hl.out];exact hlt
        have:=List.all_eq_true.1 ha _ (List.getElem_mem hkl);rw [List.getD_eq_getElem?_getD,List.getElem?_eq_getElem hkl] at hx;simp only [Option.getD_some] at hx;rw [←hx,hf] at this;cases this
       have hC:Hc x=((decide (97≤m)&&decide (m≤122))||(decide (48≤m)&&decide (m≤57))||(m==45)):=by
        unfold Hc;rw [hm];congr 1
        ·congr 1
         ·congr 1
          ·exact decide_eq_decide.2 (by omega)
          ·exact decide_eq_decide.2 (by omega)
         ·congr 1
          ·exact decide_eq_decide.2 (by omega)
          ·exact decide_eq_decide.2 (by omega)
        ·rw [Bool.eq_iff_iff]
         simp only [beq_iff_eq];omega
       rw [hC] at hok hno;clear hC hx hm;replace hok:=mK hok;replace hno:=mK hno;replace hE:=mK hE;replace hj:=mK hj;have cs:(97≤m∧m≤122)∨(48≤m∧m≤57)∨m=45∨(m<48∧m≠45)∨(57<m∧m<97)∨122<m:=by omega
       rcases cs with ⟨h3,h4⟩|⟨h3,h4⟩|rfl|⟨h3,h4⟩|⟨h3,h4⟩|h3
       ·have q1:¬m<97:=by omega
        have q2:¬122<m:=by omega
        go_wp2_with fail;go_roundw
        case rel=>exact ⟨k+1,by omega,by go_num,hE.out,hok.out (by simp [h3,h4])⟩
        case measure=>simp [intOf]<;>omega
       ·have q1:m<97:=by omega
        have q2:¬m<48:=by omega
        have q3:¬57<m:=by omega
        go_wp2_with fail;go_roundw
        case rel=>exact ⟨k+1,by omega,by go_num,hE.out,hok.out (by simp [h3,h4])⟩
        case measure=>simp [intOf]<;>omega
       ·go_wp2_with fail
        go_roundw
        case rel=>exact ⟨k+1,by omega,by go_num,hE.out,hok.out (by simp)⟩
        case measure=>simp [intOf]<;>omega
       ·have q1:m<97:=by omega
        have q2:(m==45)=false:=by simpa using h4
        have hz:=hno.out (by simp [q2];omega);subst hz;go_wp2_with fail;go_ret;exact ⟨rfl,hE1.out.trans hE.out⟩
       ·have q2:(m==45)=false:=by rw [beq_eq_false_iff_ne];omega
        have q3:¬m<48:=by omega
        have hz:=hno.out (by simp [q2];omega);subst hz;go_wp2_with fail;go_ret;exact ⟨rfl,hE1.out.trans hE.out⟩
       ·have q1:¬m<97:=by omega
        have q2:(m==45)=false:=by rw [beq_eq_false_iff_ne];omega
        have q3:¬m<48:=by omega
        have q4:57<m:=by omega
        have hz:=hno.out (by simp [q2];omega);subst hz;go_wp2_with fail;go_ret;exact ⟨rfl,hE1.out.trans hE.out⟩
      ·obtain rfl:n=k:=by omega
       have hz:r=true:=by
        rw [hr.out,List.all_eq_true];intro y hy;obtain ⟨j,hjl,rfl⟩:=List.getElem_of_mem hy;have:=hj j (by rw [←hl.out];exact hjl)
        rwa [List.getD_eq_getElem?_getD,List.getElem?_eq_getElem hjl] at this
       subst hz;replace hE:=mK hE;replace hj:=mK hj;go_wp2_with fail;go_ret;exact ⟨rfl,hE1.out.trans hE.out⟩
end Go.Proofs.YtlknpnommcohkaaGreatDoor
namespace Go.Proofs.YtlknpnommcohkaaGreatDoor
set_option maxRecDepth 100000
open Go Go.RowKit Go.Proofs Go.ChangeMaps Go.MapKept
theorem MapN.ext {w w':World}{M:Nat}{es:List (ByteArray×Value)}(h:MapN w M es)(e:Ext w w'):MapN w' M es:=by
 obtain ⟨ms,clock,hb,r⟩:=h;exact ⟨ms,clock,e.blk hb,r⟩
theorem Yr (w:World):MapN (w.alloc (.map #[] 0)) w.heap.size []:=World.ownsMap_made w Tryz.prog 9 hldN
theorem Sx {w0 w w':World}{M:Nat}(h:w.mapTurned w' M)(e:Ext w0 w)(hM:w0.heap.size≤M):Ext w0 w':=by
 obtain ⟨es,clock,es',clock',hb,rfl⟩:=h;refine Below.trans e ⟨rfl,rfl,rfl,by simp [setBlock],fun i hi=>heap_setBlock_other hb _ (by omega)⟩
theorem ls1e {w:World}{g T:Nat}{kd:Int}{p q:FV}{op oq:Option Rat}(hz:w.heap[g]? = some (.cells #[.int .u8 kd,.bool p.b1,.slice p.a1 p.n1 p.c1,.bool p.b2,.slice p.a2 p.n2 p.c2,.bool q.b1,.slice q.a1 q.n1 q.c1,.bool q.b2,.slice q.a2 q.n2 q.c2] T (0,0)))(h1:AnyF w (.agg #[.bool p.b1,.slice p.a1 p.n1 p.c1,.bool p.b2,.slice p.a2 p.n2 p.c2]) op)(h2:AnyF w (.agg #[.bool q.b1,.slice q.a1 q.n1 q.c1,.bool q.b2,.slice q.a2 q.n2 q.c2]) oq) :
  Ls 9 EltA w (.slice (some ⟨g,0,none⟩) 1 1) [((⟨kd,op,oq⟩:RE),.agg #[.int .u8 kd,.bool p.b1,.slice p.a1 p.n1 p.c1,.bool p.b2,.slice p.a2 p.n2 p.c2,.bool q.b1,.slice q.a1 q.n1 q.c1,.bool q.b2,.slice q.a2 q.n2 q.c2])]:=by
 refine Gl (os:=[((⟨kd,op,oq⟩:RE),.agg #[.int .u8 kd,.bool p.b1,.slice p.a1 p.n1 p.c1,.bool p.b2,.slice p.a2 p.n2 p.c2,.bool q.b1,.slice q.a1 q.n1 q.c1,.bool q.b2,.slice q.a2 q.n2 q.c2])]) hz (fun z hz=>?_) (fun z hz=>?_)
 ·simp only [List.mem_cons,List.not_mem_nil,or_false] at hz
  subst hz;exact ⟨p,q,rfl,h1,h2⟩
 ·simp only [List.mem_cons,List.not_mem_nil,or_false] at hz
  subst hz;rfl
theorem Aei (r:RE):chkE [r]=if mayE r then 0 else 1:=by
 unfold chkE;simp
theorem Tz {os:List (RP×Value)}{k:Nat}(hk:k<os.length):(((os.map (·.1)).take (k+1)).map fun r=>r.nm.data.toList)=(((os.map (·.1)).take k).map fun r=>r.nm.data.toList)++[os[k].1.nm.data.toList]:=by
 rw [List.take_succ_eq_append_getElem (by rw [List.length_map];exact hk)];simp
end Go.Proofs.YtlknpnommcohkaaGreatDoor
namespace Go.Proofs.YtlknpnommcohkaaGreatDoor
set_option maxRecDepth 100000
open Go Go.RowKit Go.Proofs
theorem Qw (s2 s3:Value)(tg:FV)(o2:List (Option Rat×Value))(o3:List (RP×Value))(t:Rat)(w:World)
  (h2:Ls 4 AnyF w s2 o2) (h3:Ls 11 PrtA w s3 o3) (ht:AnyF w (.agg #[.bool tg.b1,.slice tg.a1 tg.n1 tg.c1,.bool tg.b2,.slice tg.a2 tg.n2 tg.c2]) (some t)) (hb:2≤o2.length∧o2.length≤13∧1≤o3.length∧o3.length≤64) (hall:∀ j,(hj:j<o2.length)→posO o2[j].1=true) :
  Calls Tryz.prog 67 #[.agg (Ct s2 s3 tg)] w fun e w'=>∃ E:Int,e=.returned (.int .i64 E)∧decide (E=0)=((o3.map (·.1)).all mayR&&(decide (((o3.map (·.1)).map fun r=>r.nm.data.toList).Nodup)&&decide (o3.length ^ (o2.length-1)≤65536)))∧Ext w w':=by
 obtain ⟨a2,c2,e2,hc2⟩:=h2.slice;obtain ⟨a3,c3,e3,hc3⟩:=h3.slice;have H3:=mK (fun W (e:Ext w W)=>Ls.ext (w':=W) h3 (fun _ _ x=>x.ext e) e);have H:=mK (fun W (e:Ext w W)=>Ls.ext (w':=W) h2 (fun _ _ x=>x.ext e) e);obtain ⟨n2,hm2⟩:=nmE o2.length;obtain ⟨n3,hm3⟩:=nmE o3.length;rw [←hm2] at e2 hc2 hb;rw [←hm3] at e3 hc3 hb;subst e2 e3;obtain ⟨p1,p2,p3,p4⟩:=hb;obtain ⟨b1,a1,m1,d1,b2,a5,m2,d2⟩:=tg;obtain ⟨w1,hw1⟩:=nmE (w.alloc (.cells (Ct (.slice a2 n2 c2) (.slice a3 n3 c3) ⟨b1,a1,m1,d1,b2,a5,m2,d2⟩) 34));have hE:=aLe1 hw1;have z:=mK (aL10 hw1);have hzE:=mK (fun W (e:Ext w1 W)=>e.blk z.out);have K:=Gn _ (some t) w1 (ht.ext hE);rw [show (if (some t).isSome then (0:Int) else 1)=0 from rfl] at K;replace K:=mK K;have q1:¬(n2:Int)<2:=by omega
 have q2:¬(13:Int)<n2:=by omega
 have q3:¬(n3:Int)<1:=by omega
 have q4:¬(64:Int)<n3:=by omega
 clear h2 h3 ht;unfold Ct at *;replace hw1:=mK hw1;replace hE:=mK hE;replace hm2:=mK hm2;replace hm3:=mK hm3;replace hall:=mK hall;go_enter Tryz.func67,Tryz.ntmps67;have tok:Tok 0:=.mk _
 go_wp2_with (first
  | (replace tok:Tok 1:=nxT 0 tok;rw [←hw1.out];refine Ag (by rfl) 28 (.tmp 32) rfl w.heap.size 2 rfl 34 _ #[.bool b1,.slice a1 m1 d1,.bool b2,.slice a5 m2 d2] (0,0) _ z.out rfl Tryz.underlying28 rfl (by kernel_rfl) ?_)
  | (replace tok:Tok 2:=nxT 1 tok;go_at_call 115;refine K.out.mono ?_;rintro e w2 ⟨rfl,hx⟩;(have hx1:=mK hx);(obtain ⟨r0,r1,r2,r3,r4,r5⟩:=ceL5 (hzE.out _ hx));replace hE:=mK (hE.out.trans hx);clear hx))
 obtain ⟨wo,hwo⟩:=nmE (w2:World);have st:Hid (∃ k:Nat,k≤n2∧Value.int .i64 0=.int .i64 k∧Ext wo w2):=⟨0,Nat.zero_le _,rfl,hwo ▸ xR _⟩
 rw [←hwo] at hE;replace hwo:=mK hwo;go_loopw [40] (fun i wr=>∃ k:Nat,k≤n2∧i=.int .i64 k∧Ext wo wr) (fun i _=>n2-(intOf i).toNat)
 case atStart=>exact st.out
 case round=>
  clear st;obtain ⟨k,hk,rfl,hX⟩:=hrel;obtain ⟨w5,rfl⟩:=nmE (wr:World);by_cases hlt:k<n2
  ·have hkl:k<o2.length:=by rw [←hm2.out];exact hlt
   obtain ⟨b,o,c1,x1,-,hrg,hv⟩:=(H.out w5 (hE.out.trans hX)).get (by decide) hkl;rw [←hm2.out] at x1;simp only [Value.slice.injEq,true_and] at x1;obtain ⟨rfl,rfl⟩:=x1;obtain ⟨f,e0⟩:=hv.fv;obtain ⟨oo,hoo⟩:=nmE (o2[k].1);rw [←hoo] at hv;rw [e0] at hrg hv;replace hrg:w5.rangeAt b (o+k*4) [.bool f.b1,.slice f.a1 f.n1 f.c1,.bool f.b2,.slice f.a2 f.n2 f.c2]:=hrg;have hpo:posO oo=true:=by rw [hoo];exact hall.out k hkl
   obtain ⟨w6,hw6⟩:=nmE (w5.alloc (.cells #[.bool f.b1,.slice f.a1 f.n1 f.c1,.bool f.b2,.slice f.a2 f.n2 f.c2] 28));have hE6:=aLe1 hw6;have hv6:=hv.ext hE6;have zV:=aL10 hw6;have KC:=Gn (.agg #[.bool f.b1,.slice f.a1 f.n1 f.c1,.bool f.b2,.slice f.a2 f.n2 f.c2]) oo w6 hv6;have zE:=mK (fun W (e:Ext w6 W)=>e.blk zV);replace hpo:=mK hpo;replace hX:=mK hX;replace hE6:=mK hE6;replace hw6:=mK hw6;replace zV:=mK zV;replace hrg:=mK hrg;replace hoo:=mK hoo;clear e0 hv;cases oo with
   | none=>exact absurd hpo.out (by simp [posO])
   | some x=>
    rw [show (if (some x).isSome then (0:Int) else 1)=0 from rfl] at KC;obtain ⟨hfr,hnx⟩:=hv6.frac;have KS:=mK (fun W (e:Ext w6 W)=>Jt (.agg #[.bool f.b1,.slice f.a1 f.n1 f.c1,.bool f.b2,.slice f.a2 f.n2 f.c2]) x W (nT hnx (by decide)) (hfr.ext e))
    have hs:¬x.num.sign<0:=by
     have hp:0≤x.num:=by simpa [posO] using hpo.out
     rcases Int.lt_or_eq_of_le hp with h|h
     ·rw [Int.sign_eq_one_of_pos h];omega
     ·rw [←h];simp
    replace KC:=mK KC;clear hv6 hfr hnx;generalize x.num.sign=sg at *;have tok:Tok 8:=.mk _
    go_wp2_with (first
     | (replace tok:Tok 9:=nxT 8 tok;refine wpList_load_mid (by rfl) 28 (.tmp 42) rfl b (o+k*4) rfl [.bool f.b1,.slice f.a1 f.n1 f.c1,.bool f.b2,.slice f.a2 f.n2 f.c2] _ hrg.out Tryz.underlying28 rfl (by kernel_rfl) ?_)
     | (replace tok:Tok 10:=nxT 9 tok;rw [←hw6.out];refine wpList_load_row (by rfl) 28 (.tmp 4) rfl (w5.heap.size) rfl 28 #[.bool f.b1,.slice f.a1 f.n1 f.c1,.bool f.b2,.slice f.a2 f.n2 f.c2] (0,0) _ zV.out Tryz.underlying28 rfl (by kernel_rfl) ?_)
     | (replace tok:Tok 11:=nxT 10 tok;go_at_call 115;refine KC.out.mono ?_;rintro e w7 ⟨rfl,hx⟩;(have KS7:=mK (KS.out _ hx));(have zV7:=mK (zE.out _ hx));replace hE6:=mK (hE6.out.trans hx);clear hx)
     | (replace tok:Tok 12:=nxT 11 tok;refine Ag (by rfl) 28 (.tmp 4) rfl w5.heap.size 0 rfl 28 #[.bool f.b1,.slice f.a1 f.n1 f.c1,.bool f.b2,.slice f.a2 f.n2 f.c2] #[.bool f.b1,.slice f.a1 f.n1 f.c1,.bool f.b2,.slice f.a2 f.n2 f.c2] (0,0) _ zV7.out rfl Tryz.underlying28 rfl (by kernel_rfl) ?_)
     | ((have _t:Tok 12:=tok);clear _t;clear tok;go_at_call 116;refine KS7.out.mono ?_;rintro e w8 ⟨rfl,hx⟩;replace hE6:=mK (hE6.out.trans hx);clear hx))
    go_roundw
    case rel=>exact ⟨k+1,by omega,by go_num,hX.out.trans hE6.out⟩
    case measure=>simp [intOf]<;>omega
  ·obtain rfl:n2=k:=by omega
   have hmm:=@run_makeMap Tryz.prog;obtain ⟨wm,hwm⟩:=nmE (w5.alloc (.map #[] 0));have hEm:=aLe1 hwm;have hMm:MapN wm w5.heap.size []:=by rw [hwm];exact Yr w5
   have hW:Hid (Ext w w5):=hE.out.trans hX;obtain ⟨cu0,cu1,cu2,cu3,cu4,cu5⟩:=ceL5 (hzE.out _ ((hx1.out.trans (hwo.out ▸ hX)).trans hEm));have hZm:=mK (fun W (e:Ext wm W)=>hzE.out W (((hx1.out.trans (hwo.out ▸ hX)).trans hEm).trans e));replace hX:=mK hX;replace hEm:=mK hEm;replace hMm:=mK hMm;replace hwm:=mK hwm;generalize hMB:w5.heap.size=MB at *;replace hMB:=mK hMB;clear r0 r1 r2 r3 r4 r5;go_wp2_with ((replace tok:Tok 3:=nxT 2 tok;rw [←hwm.out]));have hM5:w5.heap.size≤MB:=Nat.le_of_eq hMB.out;have st2:Hid (∃ k:Nat,k≤n3∧Value.int .i64 0=.int .i64 k∧Ext w5 wm∧(∃ es,MapN wm MB es∧CntN (((o3.map (·.1)).take k).map fun r=>r.nm.data.toList) es)∧∀ j,(hj:j<o3.length)→j<k→mayR o3[j].1=true):=⟨0,Nat.zero_le _,rfl,hEm.out,⟨[],hMm.out,by simpa using Aeh⟩,fun j _ hj=>absurd hj (by omega)⟩
   replace hM5:=mK hM5;go_loopw [57] (fun i wr=>∃ k:Nat,k≤n3∧i=.int .i64 k∧Ext w5 wr∧(∃ es,MapN wr MB es∧CntN (((o3.map (·.1)).take k).map fun r=>r.nm.data.toList) es)∧∀ j,(hj:j<o3.length)→j<k→mayR o3[j].1=true) (fun i _=>n3-(intOf i).toNat)
   case atStart=>exact st2.out
   case round=>
    clear st2;obtain ⟨k,hk,rfl,hY,hes,hj⟩:=hrel;obtain ⟨v5,rfl⟩:=nmE (wr:World);by_cases hlt:k<n3
    ·have hkl:k<o3.length:=by rw [←hm3.out];exact hlt
     obtain ⟨b,o,c1,x1,-,hrg,hv⟩:=(H3.out v5 (hW.out.trans hY)).get (by decide) hkl;rw [←hm3.out] at x1;simp only [Value.slice.injEq,true_and] at x1;obtain ⟨rfl,rfl⟩:=x1;obtain ⟨rr,hrr⟩:=nmE (o3[k].1);rw [←hrr] at hv;obtain ⟨p,q,e0,f1,f2,hsz⟩:=hv;rw [e0] at hrg;obtain ⟨nm,kd,op,oq,co⟩:=rr;simp only at f1 f2 hsz hrg;replace hrg:v5.rangeAt b (o+k*11) [.string nm,.int .u8 kd,.bool p.b1,.slice p.a1 p.n1 p.c1,.bool p.b2,.slice p.a2 p.n2 p.c2,.bool q.b1,.slice q.a1 q.n1 q.c1,.bool q.b2,.slice q.a2 q.n2 q.c2,.int .i64 co]:=hrg;obtain ⟨v6,hv6⟩:=nmE (v5.alloc (.cells #[.string nm,.int .u8 kd,.bool p.b1,.slice p.a1 p.n1 p.c1,.bool p.b2,.slice p.a2 p.n2 p.c2,.bool q.b1,.slice q.a1 q.n1 q.c1,.bool q.b2,.slice q.a2 q.n2 q.c2,.int .i64 co] 74));have hE6:=aLe1 hv6;have zV:=aL10 hv6;have zE:=mK (fun W (e:Ext v6 W)=>e.blk zV);have KN:=mK (Aap nm v6 hsz);have KB:=fun (W:World) (e:Ext v6 W) (g:Nat) (hz:W.heap[g]? = some (.cells #[.int .u8 kd,.bool p.b1,.slice p.a1 p.n1 p.c1,.bool p.b2,.slice p.a2 p.n2 p.c2,.bool q.b1,.slice q.a1 q.n1 q.c1,.bool q.b2,.slice q.a2 q.n2 q.c2] 72 (0,0)))=>Ex _ _ W (by simp) (ls1e hz (f1.ext (hE6.trans e)) (f2.ext (hE6.trans e)));simp only [List.map_cons,List.map_nil,Aei] at KB;obtain ⟨G,hG⟩:=nmE (mayE ⟨kd,op,oq⟩);rw [←hG] at KB;replace KB:=mK KB;replace hG:=mK hG;have y0:=ceL0 zV;obtain ⟨B,hB⟩:=nmE (Eq nm.data.toList)
     have hno:B=false→((o3.map (·.1)).all mayR)=false:=by
      intro h;rw [Bool.eq_false_iff];intro ha;have:=List.all_eq_true.1 ha _ (List.mem_map_of_mem (List.getElem_mem hkl));rw [←hrr] at this;simp [mayR,←hB,h] at this
     rw [←hB] at KN;replace hno:=mK hno;replace hB:=mK hB;replace hY:=mK hY;replace hes:=mK hes;replace hj:=mK hj;replace hE6:=mK hE6;replace hv6:=mK hv6;replace zV:=mK zV;replace hrg:=mK hrg;replace hrr:=mK hrr;clear e0 f1 f2;cases B
     ·have tok:Tok 8:=.mk _
      go_wp2_with (first
       | (replace tok:Tok 9:=nxT 8 tok;refine wpList_load_mid (by rfl) 74 (.tmp 59) rfl b (o+k*11) rfl [.string nm,.int .u8 kd,.bool p.b1,.slice p.a1 p.n1 p.c1,.bool p.b2,.slice p.a2 p.n2 p.c2,.bool q.b1,.slice q.a1 q.n1 q.c1,.bool q.b2,.slice q.a2 q.n2 q.c2,.int .i64 co] _ hrg.out Tryz.underlying74 rfl (by kernel_rfl) ?_)
       | (replace tok:Tok 10:=nxT 9 tok;rw [←hv6.out])
       | ((have _t:Tok 10:=tok);clear _t;clear tok;go_at_call 117;refine KN.out.mono ?_;rintro e w7 ⟨rfl,hx⟩;replace hE6:=mK (hE6.out.trans hx);clear hx))
      go_ret;exact ⟨1,rfl,by rw [hno.out (by first|trivial|rfl)];rfl,hW.out.trans (hY.out.trans hE6.out)⟩
     ·cases G
      ·have hno2:((o3.map (·.1)).all mayR)=false:=by
        rw [Bool.eq_false_iff];intro ha;have:=List.all_eq_true.1 ha _ (List.mem_map_of_mem (List.getElem_mem hkl));rw [←hrr.out] at this;have h3:mayO kd op oq=false:=hG.out.symm;simp [mayR,h3] at this
       replace hno2:=mK hno2;have KB2:=KB.out;simp only [Bool.false_eq_true,if_false] at KB2;replace KB2:=mK KB2;have tok:Tok 8:=.mk _
       go_wp2_with (first
        | (replace tok:Tok 9:=nxT 8 tok;refine wpList_load_mid (by rfl) 74 (.tmp 59) rfl b (o+k*11) rfl [.string nm,.int .u8 kd,.bool p.b1,.slice p.a1 p.n1 p.c1,.bool p.b2,.slice p.a2 p.n2 p.c2,.bool q.b1,.slice q.a1 q.n1 q.c1,.bool q.b2,.slice q.a2 q.n2 q.c2,.int .i64 co] _ hrg.out Tryz.underlying74 rfl (by kernel_rfl) ?_)
        | (replace tok:Tok 10:=nxT 9 tok;rw [←hv6.out])
        | (replace tok:Tok 11:=nxT 10 tok;go_at_call 117;refine KN.out.mono ?_;rintro e w7 ⟨rfl,hx⟩;(have hx7:=mK hx);(have zV7:=mK (zE.out _ hx));replace hE6:=mK (hE6.out.trans hx);clear hx)
        | (replace tok:Tok 12:=nxT 11 tok;refine Ag (by rfl) 72 (.tmp 66) rfl v5.heap.size 1 rfl 74 _ #[.int .u8 kd,.bool p.b1,.slice p.a1 p.n1 p.c1,.bool p.b2,.slice p.a2 p.n2 p.c2,.bool q.b1,.slice q.a1 q.n1 q.c1,.bool q.b2,.slice q.a2 q.n2 q.c2] (0,0) _ zV7.out rfl Tryz.underlying72 rfl (by kernel_rfl) ?_)
        | (replace tok:Tok 13:=nxT 12 tok;go_at_call 65;refine (KB2.out _ (hx7.out.al _) _ (heap_alloc_new _ _)).mono ?_;rintro e w8 ⟨rfl,hx⟩;replace hE6:=mK ((hE6.out.al _).trans hx);clear hx))
       go_ret;exact ⟨1,rfl,by rw [hno2.out];rfl,hW.out.trans (hY.out.trans hE6.out)⟩
      ·have KB3:=KB.out
       simp only [if_true] at KB3;replace KB3:=mK KB3;by_cases hc:0≤co∧co≤1073741824
       ·obtain ⟨es,hM,hC⟩:=hes.out
        have hel:es.length<maxLen:=by
         have h1:(((o3.map (·.1)).take k).map fun r=>r.nm.data.toList).length≤64:=by
          rw [List.length_map,List.length_take];omega
         by_cases hd:(((o3.map (·.1)).take k).map fun r=>r.nm.data.toList).Nodup
         ·have:=hC.yes hd
          unfold maxLen;omega
         ·have:=hC.no hd
          unfold maxLen;omega
        have hsn:nm.size≤maxLen:=by unfold maxLen;omega
        have hmy:mayR o3[k].1=true:=by
         rw [←hrr.out];have h3:mayO kd op oq=true:=hG.out.symm;simp [mayR,h3,←hB.out,hc.1,hc.2]
        have hnn:o3[k].1.nm=nm:=by rw [←hrr.out]
        have c0:¬co<0:=by omega
        have c1:¬1073741824<co:=by omega
        replace hM:=mK hM;replace hC:=mK hC;replace hel:=mK hel;replace hsn:=mK hsn;replace hmy:=mK hmy;replace hnn:=mK hnn;clear hc hsz;have tok:Tok 8:=.mk _
        go_wp2_with (first
         | (replace tok:Tok 9:=nxT 8 tok;refine wpList_load_mid (by rfl) 74 (.tmp 59) rfl b (o+k*11) rfl [.string nm,.int .u8 kd,.bool p.b1,.slice p.a1 p.n1 p.c1,.bool p.b2,.slice p.a2 p.n2 p.c2,.bool q.b1,.slice q.a1 q.n1 q.c1,.bool q.b2,.slice q.a2 q.n2 q.c2,.int .i64 co] _ hrg.out Tryz.underlying74 rfl (by kernel_rfl) ?_)
         | (replace tok:Tok 10:=nxT 9 tok;rw [←hv6.out])
         | (replace tok:Tok 11:=nxT 10 tok;go_at_call 117;refine KN.out.mono ?_;rintro e w7 ⟨rfl,hx⟩;(have hx7:=mK hx);(have zV7:=mK (zE.out _ hx));replace hE6:=mK (hE6.out.trans hx);clear hx)
         | (replace tok:Tok 12:=nxT 11 tok;refine Ag (by rfl) 72 (.tmp 66) rfl v5.heap.size 1 rfl 74 _ #[.int .u8 kd,.bool p.b1,.slice p.a1 p.n1 p.c1,.bool p.b2,.slice p.a2 p.n2 p.c2,.bool q.b1,.slice q.a1 q.n1 q.c1,.bool q.b2,.slice q.a2 q.n2 q.c2] (0,0) _ zV7.out rfl Tryz.underlying72 rfl (by kernel_rfl) ?_)
         | ((replace tok:Tok 13:=nxT 12 tok;go_at_call 65;refine (KB3.out _ (hx7.out.al _) _ (heap_alloc_new _ _)).mono ?_;rintro e w8 ⟨rfl,hx⟩);((have y10:w8.cell? ⟨v5.heap.size,10,none⟩=some (.int .i64 co):=by simp [World.cell?,zE.out _ ((hx7.out.al _).trans hx)]));((have y11:w8.cell? ⟨v5.heap.size,0,none⟩=some (.string nm):=by simp [World.cell?,zE.out _ ((hx7.out.al _).trans hx)]));((have hE8:=hY.out.trans ((hE6.out.al _).trans hx)));((have hM8:=hM.out.ext ((hE6.out.al _).trans hx));(rw [←hMB.out] at hM8));((obtain ⟨nL,hL⟩:=hM8.look hC.out.ints nm hsn.out));((obtain ⟨w9,r1,r2,r3⟩:=hM8.store nm (.int .i64 (wrap64 (nL+1))) hsn.out hel.out));((have hF9:=mK (Sx r3 hE8 (nR _)));(rw [hMB.out] at r2));((replace r2:=mK r2);clear hE8 hM8 hx r3)))
        go_roundw
        case rel=>
         refine ⟨k+1,by omega,by go_num,hF9.out,⟨_,r2.out,?_⟩,fun j hjl hjk=>?_⟩
         ·rw [Tz hkl,hnn.out]
          exact hC.out.step nm _
         ·rcases Nat.lt_or_ge j k with h|h
          ·exact hj.out j hjl h
          ·obtain rfl:j=k:=by omega
           exact hmy.out
        case measure=>simp [intOf]<;>omega
       ·have hno3:((o3.map (·.1)).all mayR)=false:=by
         rw [Bool.eq_false_iff];intro ha;have:=List.all_eq_true.1 ha _ (List.mem_map_of_mem (List.getElem_mem hkl));rw [←hrr.out] at this;simp only [mayR,Bool.and_eq_true,decide_eq_true_eq] at this;exact hc this.2.2
        replace hno3:=mK hno3;by_cases hc0:co<0
        ·replace hc:=mK hc
         have tok:Tok 8:=.mk _
         go_wp2_with (first
          | (replace tok:Tok 9:=nxT 8 tok;refine wpList_load_mid (by rfl) 74 (.tmp 59) rfl b (o+k*11) rfl [.string nm,.int .u8 kd,.bool p.b1,.slice p.a1 p.n1 p.c1,.bool p.b2,.slice p.a2 p.n2 p.c2,.bool q.b1,.slice q.a1 q.n1 q.c1,.bool q.b2,.slice q.a2 q.n2 q.c2,.int .i64 co] _ hrg.out Tryz.underlying74 rfl (by kernel_rfl) ?_)
          | (replace tok:Tok 10:=nxT 9 tok;rw [←hv6.out])
          | (replace tok:Tok 11:=nxT 10 tok;go_at_call 117;refine KN.out.mono ?_;rintro e w7 ⟨rfl,hx⟩;(have hx7:=mK hx);(have zV7:=mK (zE.out _ hx));replace hE6:=mK (hE6.out.trans hx);clear hx)
          | (replace tok:Tok 12:=nxT 11 tok;refine Ag (by rfl) 72 (.tmp 66) rfl v5.heap.size 1 rfl 74 _ #[.int .u8 kd,.bool p.b1,.slice p.a1 p.n1 p.c1,.bool p.b2,.slice p.a2 p.n2 p.c2,.bool q.b1,.slice q.a1 q.n1 q.c1,.bool q.b2,.slice q.a2 q.n2 q.c2] (0,0) _ zV7.out rfl Tryz.underlying72 rfl (by kernel_rfl) ?_)
          | (replace tok:Tok 13:=nxT 12 tok;go_at_call 65;refine (KB3.out _ (hx7.out.al _) _ (heap_alloc_new _ _)).mono ?_;rintro e w8 ⟨rfl,hx⟩;(have y10:w8.cell? ⟨v5.heap.size,10,none⟩=some (.int .i64 co):=by simp [World.cell?,zE.out _ ((hx7.out.al _).trans hx)]);replace hE6:=mK ((hE6.out.al _).trans hx);clear hx))
         go_ret;exact ⟨1,rfl,by rw [hno3.out];rfl,hW.out.trans (hY.out.trans hE6.out)⟩
        ·have hc1:1073741824<co:=by omega
         replace hc:=mK hc;have tok:Tok 8:=.mk _
         go_wp2_with (first
          | (replace tok:Tok 9:=nxT 8 tok;refine wpList_load_mid (by rfl) 74 (.tmp 59) rfl b (o+k*11) rfl [.string nm,.int .u8 kd,.bool p.b1,.slice p.a1 p.n1 p.c1,.bool p.b2,.slice p.a2 p.n2 p.c2,.bool q.b1,.slice q.a1 q.n1 q.c1,.bool q.b2,.slice q.a2 q.n2 q.c2,.int .i64 co] _ hrg.out Tryz.underlying74 rfl (by kernel_rfl) ?_)
          | (replace tok:Tok 10:=nxT 9 tok;rw [←hv6.out])
          | (replace tok:Tok 11:=nxT 10 tok;go_at_call 117;refine KN.out.mono ?_;rintro e w7 ⟨rfl,hx⟩;(have hx7:=mK hx);(have zV7:=mK (zE.out _ hx));replace hE6:=mK (hE6.out.trans hx);clear hx)
          | (replace tok:Tok 12:=nxT 11 tok;refine Ag (by rfl) 72 (.tmp 66) rfl v5.heap.size 1 rfl 74 _ #[.int .u8 kd,.bool p.b1,.slice p.a1 p.n1 p.c1,.bool p.b2,.slice p.a2 p.n2 p.c2,.bool q.b1,.slice q.a1 q.n1 q.c1,.bool q.b2,.slice q.a2 q.n2 q.c2] (0,0) _ zV7.out rfl Tryz.underlying72 rfl (by kernel_rfl) ?_)
          | (replace tok:Tok 13:=nxT 12 tok;go_at_call 65;refine (KB3.out _ (hx7.out.al _) _ (heap_alloc_new _ _)).mono ?_;rintro e w8 ⟨rfl,hx⟩;(have y10:w8.cell? ⟨v5.heap.size,10,none⟩=some (.int .i64 co):=by simp [World.cell?,zE.out _ ((hx7.out.al _).trans hx)]);replace hE6:=mK ((hE6.out.al _).trans hx);clear hx))
         go_ret;exact ⟨1,rfl,by rw [hno3.out];rfl,hW.out.trans (hY.out.trans hE6.out)⟩
    ·obtain rfl:n3=k:=by omega
     obtain ⟨es,hM,hC⟩:=hes;have hz5:=hzE.out v5 ((hx1.out.trans (hwo.out ▸ hX.out)).trans hY);obtain ⟨g0,g1,g2,g3,g4,g5⟩:=ceL5 hz5
     have hall3:(o3.map (·.1)).all mayR=true:=by
      rw [List.all_eq_true];intro x hx;obtain ⟨z,hz,rfl⟩:=List.mem_map.1 hx;obtain ⟨j,hjl,rfl⟩:=List.getElem_of_mem hz;exact hj j hjl (by rw [hm3.out];exact hjl)
     have htk:(o3.map (·.1)).take n3=o3.map (·.1):=List.take_of_length_le (by rw [List.length_map,hm3.out];exact nR _);rw [htk] at hC;have hln:((o3.map (·.1)).map fun r=>r.nm.data.toList).length=n3:=by rw [List.length_map,List.length_map,hm3.out]
     rw [←hMB.out] at hM;have yl:=fun ty=>hM.len ty;obtain ⟨L,hL⟩:=nmE es.length;rw [←hL] at yl;have hEv:Hid (Ext w v5):=hW.out.trans hY;have hT5:=mK ((hx1.out.trans (hwo.out ▸ hX.out)).trans hY);replace hall3:=mK hall3;replace hz5:=mK hz5;clear hj htk cu0 cu1 cu2 cu3 cu4 cu5 hM hY;by_cases hnd:((o3.map (·.1)).map fun r=>r.nm.data.toList).Nodup
     ·have hyes:=hC.yes hnd
      rw [hln,←hL] at hyes;subst hyes;clear hL hC hln;have qq:¬(L:Int)<(L:Int):=by omega
      have hs5:=hz5.out;have KS:=mK (Ac4 a2 n2 c2 (.slice a3 L c3) ⟨b1,a1,m1,d1,b2,a5,m2,d2⟩ v5 (by omega) hc2);unfold Ct at KS;replace hnd:=mK hnd;have tok:Tok 30:=.mk _
      go_wp2_with (first
       | (replace tok:Tok 31:=nxT 30 tok;refine wpList_load_row (by rfl) 34 (.tmp 1) rfl w.heap.size rfl 34 _ (0,0) _ hz5.out Tryz.underlying34 rfl (by kernel_rfl) ?_)
       | (replace tok:Tok 32:=nxT 31 tok;go_at_call 118;refine KS.out.mono ?_;rintro e v7 ⟨rfl,hx⟩))
      have hz7:=mK (fun W (e:Ext v7 W)=>hzE.out W ((hT5.out.trans hx).trans e));have hEv7:=mK (hEv.out.trans hx);obtain ⟨vo,hvo⟩:=nmE (v7:World);have st3:Hid (∃ k:Nat,k+1≤n2∧Value.int .i64 0=.int .i64 k∧Value.int .i64 1=.int .i64 ((L ^ k:Nat):Int)∧L ^ k≤65536∧Ext vo v7):=⟨0,by omega,rfl,rfl,by simp,by rw [hvo];exact xR _⟩
      rw [←hvo] at hz7 hEv7;replace hvo:=mK hvo;clear hx g0 g1 g2 g3 g4 g5 yl;go_loopw [96,6] (fun i m wr=>∃ k:Nat,k+1≤n2∧i=.int .i64 k∧m=.int .i64 ((L ^ k:Nat):Int)∧L ^ k≤65536∧Ext vo wr) (fun i _ _=>n2-(intOf i).toNat)
      case atStart=>exact st3.out
      case round=>
       clear st3;obtain ⟨k,hk,rfl,rfl,hb,hU⟩:=hrel;obtain ⟨v8,rfl⟩:=nmE (wr:World);obtain ⟨g0,g1,g2,g3,g4,g5⟩:=ceL5 (hz7.out v8 hU);by_cases hlt:k+1<n2
       ·have hws:=Xf p4 hb
        have hwb:=mK (fun hb'=>Zz (n:=L) (k:=k) (m:=n2-1) p3 (by omega) hb');have hlt':(k:Int)<(n2:Int)-1:=by omega
        obtain ⟨W0,hW0⟩:=nmE (L ^ k);obtain ⟨W1,hW1⟩:=nmE (L ^ (k+1));rw [←hW0,←hW1] at hws;rw [←hW0];rw [←hW1] at hwb;replace hW0:=mK hW0;replace hW1:=mK hW1;replace hU:=mK hU;clear hb;by_cases hbig:65536<W1
        ·have hbi:(65536:Int)<(W1:Int):=by omega
         go_wp2_with fail;go_ret;exact ⟨4,rfl,by rw [←hm2.out,←hm3.out,decide_eq_false (hwb.out hbig),Bool.and_false,Bool.and_false];rfl,hEv7.out.trans hU.out⟩
        ·have hbi:¬(65536:Int)<(W1:Int):=by omega
         go_wp2_with fail;go_roundw
         case rel=>exact ⟨k+1,by omega,by go_num,by rw [hW1.out],by rw [←hW1.out];omega,hU.out⟩
         case measure=>simp [intOf]<;>omega
       ·have hkk:k=n2-1:=by omega
        have hlt':¬(k:Int)<(n2:Int)-1:=by omega
        have hbb:decide (L ^ (n2-1)≤65536)=true:=by rw [←hkk];exact decide_eq_true hb
        replace hbb:=mK hbb;replace hU:=mK hU;clear hb;go_wp2_with fail;go_ret;have h1:=hall3.out;have h2:=decide_eq_true hnd.out
        exact ⟨0,rfl,by
         rw [←hm2.out,←hm3.out,hbb.out]
         first
          | (rw [h1,h2];rfl)
          | (simp only [List.map_map,List.all_map] at h1 h2;rw [h1,h2];rfl),hEv7.out.trans hU.out⟩
     ·have hno:=hC.no hnd
      rw [hln,←hL] at hno;have qq:(L:Int)<(n3:Int):=by omega
      replace hnd:=mK hnd;clear hL hC hln;go_wp2_with fail;go_ret;exact ⟨10,rfl,by rw [decide_eq_false hnd.out,Bool.false_and,Bool.and_false];rfl,hEv.out⟩
theorem Aas (s2 s3:Value)(tg:FV)(o2:List (Option Rat×Value))(o3:List (RP×Value))(ot:Option Rat)(w:World)(hn2:o2.length≤1099511627776)(hn3:o3.length≤1099511627776)
  (h2:Ls 4 AnyF w s2 o2) (h3:Ls 11 PrtA w s3 o3) (ht:AnyF w (.agg #[.bool tg.b1,.slice tg.a1 tg.n1 tg.c1,.bool tg.b2,.slice tg.a2 tg.n2 tg.c2]) ot) :
  Calls Tryz.prog 67 #[.agg (Ct s2 s3 tg)] w fun e w'=>∃ E:Int,e=.returned (.int .i64 E)∧decide (E=0)=Nv (o2.map (·.1)) (o3.map (·.1)) ot∧Ext w w':=by
 by_cases hb:2≤o2.length∧o2.length≤13∧1≤o3.length∧o3.length≤64∧ot.isSome=true
 ·obtain ⟨b1,b2,b3,b4,b5⟩:=hb
  obtain ⟨t,rfl⟩:=Option.isSome_iff_exists.1 b5;by_cases hs:∀ j,(hj:j<o2.length)→posO o2[j].1=true
  ·refine (Qw s2 s3 tg o2 o3 t w h2 h3 ht ⟨b1,b2,b3,b4⟩ hs).mono ?_
   rintro e w' ⟨E,h1,h2,h3⟩;refine ⟨E,h1,?_,h3⟩;rw [h2]
   have ha:(o2.map (·.1)).all posO=true:=by
    rw [List.all_eq_true];intro x hx;obtain ⟨z,hz,rfl⟩:=List.mem_map.1 hx;obtain ⟨j,hj,rfl⟩:=List.getElem_of_mem hz;exact hs j hj
   unfold Nv;rw [ha,List.length_map,List.length_map,decide_eq_true b1,decide_eq_true b2,decide_eq_true b3,decide_eq_true b4];rfl
  ·refine (Ov s2 s3 tg o2 o3 t w h2 h3 ht ⟨b1,b2,b3,b4⟩ hs).mono ?_
   rintro e w' ⟨h1,h2⟩;refine ⟨1,h1,?_,h2⟩
   have ha:(o2.map (·.1)).all posO=false:=by
    rw [Bool.eq_false_iff];intro ha;exact hs fun j hj=>List.all_eq_true.1 ha _ (List.mem_map_of_mem (List.getElem_mem hj))
   unfold Nv;rw [ha];simp
 ·refine (Tf s2 s3 tg o2 o3 ot w hn2 hn3 h2 h3 ht hb).mono ?_
  rintro e w' ⟨h1,h2⟩;refine ⟨1,h1,?_,h2⟩;unfold Nv;rw [List.length_map,List.length_map];rw [show (decide ((1:Int)=0))=false from rfl]
  symm
  rw [Bool.eq_false_iff];intro hm;simp only [Bool.and_eq_true,decide_eq_true_eq] at hm;exact hb ⟨hm.1.1,hm.1.2.1,hm.1.2.2.1,hm.1.2.2.2.1,hm.1.2.2.2.2⟩
end Go.Proofs.YtlknpnommcohkaaGreatDoor
