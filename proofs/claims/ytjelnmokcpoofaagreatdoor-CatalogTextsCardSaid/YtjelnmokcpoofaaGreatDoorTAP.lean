/-
  A list of parts of one's own to which parts are appended that are read, wherever their rows lie. The reference's read at any line, in one walk. The reference's Parse: any text.
-/
import Derived.Test.YtjelnmokcpoofaaGreatDoorTAO
import Derived.Test.YtjelnmokcpoofaaGreatDoorTAK
import Derived.Test.YtjelnmokcpoofaaGreatDoorTAI
import Derived.Test.YtjelnmokcpoofaaGreatDoorTAJ
import Derived.Test.YtjelnmokcpoofaaGreatDoorTAM
import Derived.Test.YtjelnmokcpoofaaGreatDoorTAL
namespace Go.Proofs.YtjelnmokcpoofaaGreatDoor
set_option maxRecDepth 100000
open Go Go.RowKit Go.Proofs
def FlatO (w : World) (v : Value) : Prop := ∀ g, v.ownBlock = some g → ∃ cur : Array Value, w.heap[g]? = some (.cells cur 56 (0, 0)) ∧ cur.all f32V = true
theorem all_arr {p : Value → Bool} {l : List Value} (h : l.all p = true) : (l.toArray).all p = true := by
 rw [← List.all_toArray] at h
 exact h
theorem part_flat (d : PD) (p q : FV) (_h : d.kd = d.kd) : ([.string d.nm, .int .u8 d.kd, .bool p.b1, .slice p.a1 p.n1 p.c1, .bool p.b2, .slice p.a2 p.n2 p.c2, .bool q.b1, .slice q.a1 q.n1 q.c1, .bool q.b2, .slice q.a2 q.n2 q.c2, .int .i64 d.co] : List Value).all f32V = true := by simp [f32V]
theorem zero_flat (n : Nat) : (Builtin.zeroCells zeroPart.cells n).all f32V = true := by
 rw [Array.all_eq_true]
 intro i hi
 have h : ∀ k, k < 11 → f32V (zeroPart.cells[k]!) = true := by decide
 simp only [Builtin.zeroCells, Array.getElem_map, Array.getElem_range]
 exact h _ (Nat.mod_lt _ (by decide))
theorem append_flat (w : World) (base : Nat) (ty : TypeId) (v : Value) (n : Nat) (xs : List Value) (hown : w.ownsRow base 56 11 v n xs) (hfx : xs.all f32V = true) (hfl : FlatO w v)
  (ad : Addr) (c : Nat) (news : List Value) (hl : news.length = 11) (hnews : ∀ j u, news[j]? = some u → w.cell? (ad.add j) = some u) (h1 : ∀ u ∈ news, u.oneCell' = true) (hfn : news.all f32V = true) (hb : n + 1 ≤ 1000) (hbase : base ≤ w.heap.size) :
  ∃ v' w', (Builtin.append_ #[27, 27] ty #[v, .slice (some ad) 1 c]).run Tryz.prog w = .ok v' w' ∧ w'.ownsRow base 56 11 v' (n + 1) (xs ++ news) ∧ w.grownBy w' v.ownBlock ∧ FlatO w' v' := by
 obtain ⟨i0, hi, hz0, hz1, hz2⟩ := info_parts infoPart
 obtain ⟨v', w', hr, h2, h3, -, -⟩ := run_append_own_at (P := Tryz.prog) w base 27 ty 56 i0 zeroPart 11 160 Tryz.underlying27 hi hz0 hz1 hz2 rfl (by decide) v n xs hown ad 1 c news (by simpa using hl) hnews h1 (by unfold maxLen; omega) (by omega) hbase
 refine ⟨v', w', hr, h2, h3, ?_⟩
 rcases hown.2 with ⟨rfl, rfl⟩ | ⟨g, cap, cur, rfl, hbg, hg, hnc, hcm, hcs, htake⟩
 ·have hr2 := run_append_nil (P := Tryz.prog) w 27 ty 56 i0 zeroPart Tryz.underlying27 hi hz0 ad 1 c news (by rw [hz1]; simpa using hl) hnews (by decide) (by decide) (by rw [hz2]; decide)
  have hr := hr2.symm.trans hr
  injection hr with e1 e2
  subst e1
  subst e2
  intro g hg
  have hg : some w.heap.size = some g := hg
  cases hg
  refine ⟨_, heap_alloc_new w.drew _, ?_⟩
  rw [Array.all_append, all_arr hfn, zero_flat]
  rfl
 ·by_cases hroom : n + 1 ≤ cap
  ·have hr2 := run_append_room (P := Tryz.prog) w 27 ty 56 i0 Tryz.underlying27 hi g n cap cur hg ad 1 c news (by rw [hz1]; simpa using hl) hnews h1 hroom (by rw [hz1, hl, hcs]; have := Nat.mul_le_mul_right 11 hroom; omega)
   have hr := hr2.symm.trans hr
   injection hr with e1 e2
   subst e1
   subst e2
   intro g' hg'
   have hg' : some g = some g' := hg'
   cases hg'
   obtain ⟨cur', hc1, hc2⟩ := hfl g rfl
   rw [hg] at hc1
   cases hc1
   refine ⟨_, setRow_heap _ _ _ _ _ _ hg, all_arr ?_⟩
   have hcl : ∀ u ∈ cur.toList, f32V u = true := by
    have := hc2
    rw [← Array.all_toList] at this
    exact List.all_eq_true.1 this
   rw [List.all_eq_true]
   intro u hu
   rcases List.mem_append.1 hu with hu | hu
   ·rcases List.mem_append.1 hu with hu | hu
    ·exact hcl u (List.mem_of_mem_take hu)
    ·exact List.all_eq_true.1 hfn u hu
   ·exact hcl u (List.mem_of_mem_drop hu)
  ·have holds : ∀ j u, xs[j]? = some u → w.cell? ((⟨g, 0, none⟩ : Addr).add j) = some u := hown.cells (g := g) rfl
   have hr2 := run_append_grow (P := Tryz.prog) w 27 ty 56 i0 zeroPart Tryz.underlying27 hi hz0 ⟨g, 0, none⟩ n cap xs (by rw [hz1]; exact hown.1) holds ad 1 c news (by rw [hz1]; simpa using hl) hnews (by omega) (by omega) (growslice_fits (by omega) (by rw [hz2]; omega))
   have hr := hr2.symm.trans hr
   injection hr with e1 e2
   subst e1
   subst e2
   intro g' hg'
   have hg' : some w.heap.size = some g' := hg'
   cases hg'
   refine ⟨_, heap_alloc_new w.drew _, ?_⟩
   rw [Array.all_append, Array.all_append, all_arr hfx, all_arr hfn, zero_flat]
   rfl
theorem wpList_append_flat {ops : Array Oper} {rest : List Oper} {o : Oper} {act : Act} {w : World} {Q : Exit → Act → World → Prop} (hgd : o.guard = none) (s x : Operand) (ho : o.op = .call { callee := .builtin .append, args := #[s, x], argTypes := #[27, 27] })
  (base : Nat) (v : Value) (n : Nat) (xs : List Value) (hs : act.eval s = v) (hown : w.ownsRow base 56 11 v n xs) (hfx : xs.all f32V = true) (hfl : FlatO w v) (ad : Addr) (c : Nat) (news : List Value) (hx : act.eval x = .slice (some ad) 1 c) (hl : news.length = 11)
  (hnews : ∀ j u, news[j]? = some u → w.cell? (ad.add j) = some u) (h1 : ∀ u ∈ news, u.oneCell' = true) (hfn : news.all f32V = true) (hb : n + 1 ≤ 1000) (hbase : base ≤ w.heap.size)
  (h : ∀ v' w', w'.ownsRow base 56 11 v' (n + 1) (xs ++ news) → w.grownBy w' v.ownBlock → FlatO w' v' → wpList Tryz.prog ops Q rest (act.put o.dst v') w') :
  wpList Tryz.prog ops Q (o :: rest) act w := by
 refine wpList_plain hgd fun K hK => ?_
 obtain ⟨v', w', hr, h2, h3, h4⟩ := append_flat w base o.type v n xs hown hfx hfl ad c news hl hnews h1 hfn hb hbase
 unfold Oper.wp execOp
 simp only [ho, resolve, invoke, builtin, Sem.run_bind, Sem.run_pure, Result.andThen_ok, List.map_toArray, List.map_cons, List.map_nil, hs, hx, hr]
 exact hK _ _ (h v' w' h2 h3 h4)
theorem Row.g32 {w w' : World} {v : Value} {a : Option Addr} {l : List Nat} (hg : w.grownBy w' v.ownBlock) (hf : FlatO w v) (h : Row w a (limV l)) : Row w' a (limV l) := by
 obtain ⟨b, off, h1, h2⟩ := h
 refine ⟨b, off, h1, fun j hj => ?_⟩
 have hc := h2 j hj
 rw [limV_getD _ _ (by rw [limV_length] at hj; exact hj)] at hc ⊢
 have hlt := World.block_lt_of_cell? _ _ hc
 have hne : some b ≠ v.ownBlock := by
  intro e
  obtain ⟨cur, c1, c2⟩ := hf b e.symm
  have hc2 : cur[off + j]? = some (.int .u32 ((l.getD j 0 : Nat) : Int)) := by
   simp only [World.cell?, c1] at hc
   simpa using hc
  obtain ⟨hl, he⟩ := Array.getElem?_eq_some_iff.1 hc2
  have := Array.all_eq_true.1 c2 _ hl
  rw [he] at this
  cases this
 exact (World.cell?_of_block (hg.block b hlt hne)).trans hc
theorem IntR.g32 {w w' : World} {v u : Value} {x : Int} (hg : w.grownBy w' u.ownBlock) (hf : FlatO w u) (h : IntR w v x) : IntR w' v x := by
 obtain ⟨s, h1, a, c, h2, h3, r⟩ := h
 exact ⟨s, h1, a, c, h2, h3, r.g32 hg hf⟩
theorem FracR.g32 {w w' : World} {v u : Value} {q : Rat} (hg : w.grownBy w' u.ownBlock) (hf : FlatO w u) (h : FracR w v q) : FracR w' v q := by
 obtain ⟨b1, a1, n1, c1, b2, a2, n2, c2, h1, h2, h3⟩ := h
 exact ⟨b1, a1, n1, c1, b2, a2, n2, c2, h1, h2.g32 hg hf, h3.g32 hg hf⟩
theorem PartR.g32 {w w' : World} {v u : Value} {d : PD} (hg : w.grownBy w' u.ownBlock) (hf : FlatO w u) (h : PartR w v d) : PartR w' v d := by
 obtain ⟨p, q, rfl, h1, h2⟩ := h.fv
 exact PartR.mk (h1.g32 hg hf) (h2.g32 hg hf)
structure OutR (lo : Nat) (w : World) (s : Value) (os : List (PD × Value)) : Prop where
 row : w.ownsRow lo 56 11 s os.length (cellsP os)
 flat : FlatO w s
 part : ∀ x ∈ os, PartR w x.2 x.1
theorem FlatO.ext {w w' : World} {s : Value} (h : FlatO w s) (e : Ext w w') : FlatO w' s := fun g hg => by
 obtain ⟨cur, h1, h2⟩ := h g hg
 exact ⟨cur, e.blk h1, h2⟩
theorem OutR.ext {lo : Nat} {w w' : World} {s : Value} {os : List (PD × Value)} (h : OutR lo w s os) (e : Ext w w') : OutR lo w' s os :=
 ⟨ownsRow_ext h.row e, h.flat.ext e, fun x hx => (h.part x hx).ext e⟩
theorem outR_nil (lo : Nat) (w : World) : OutR lo w (.slice none 0 0) [] := ⟨World.ownsRow_nil _ _ _ _, fun g h => (by cases h), by simp⟩
theorem OutR.rowL {lo : Nat} {w : World} {s : Value} {os : List (PD × Value)} (h : OutR lo w s os) : RowL w s os := rowL_of_owns h.row h.part
theorem OutR.allV {lo : Nat} {w : World} {s : Value} {os : List (PD × Value)} (h : OutR lo w s os) : AllV os := fun x hx => by
 obtain ⟨p, q, e, -, -⟩ := (h.part x hx).fv
 exact ⟨p, q, e⟩
theorem OutR.cflat {lo : Nat} {w : World} {s : Value} {os : List (PD × Value)} (h : OutR lo w s os) : (cellsP os).all f32V = true := by
 rw [List.all_eq_true]
 intro u hu
 obtain ⟨x, hx, hux⟩ := List.mem_flatMap.1 hu
 obtain ⟨p, q, e⟩ := h.allV x hx
 rw [e] at hux
 exact List.all_eq_true.1 (part_flat x.1 p q rfl) u hux
theorem OutR.snoc {lo : Nat} {w w' : World} {s s' : Value} {os : List (PD × Value)} {d : PD} {v : Value} (h : OutR lo w s os) (hv : PartR w v d)
  (hr : w'.ownsRow lo 56 11 s' (os.length + 1) (cellsP os ++ v.cells.toList)) (hg : w.grownBy w' s.ownBlock) (hf : FlatO w' s') : OutR lo w' s' (os ++ [(d, v)]) := by
 refine ⟨by simpa [cellsP] using hr, hf, fun x hx => ?_⟩
 rcases List.mem_append.1 hx with hm | hm
 ·exact (h.part x hm).g32 hg h.flat
 ·rw [List.mem_singleton] at hm
  subst hm
  exact hv.g32 hg h.flat
def RRdQ (w : World) (R : Except Int PD) (e : Ending) (w' : World) : Prop :=
 (∃ d, R = .ok d ∧ ∃ f g : FV, e = .returned (.tuple #[.agg #[.string d.nm, .int .u8 d.kd, .bool f.b1, .slice f.a1 f.n1 f.c1, .bool f.b2, .slice f.a2 f.n2 f.c2, .bool g.b1, .slice g.a1 g.n1 g.c1, .bool g.b2, .slice g.a2 g.n2 g.c2, .int .i64 d.co], .int .i64 0]) ∧ PartR w' (.agg #[.string d.nm, .int .u8 d.kd, .bool f.b1, .slice f.a1 f.n1 f.c1, .bool f.b2, .slice f.a2 f.n2 f.c2, .bool g.b1, .slice g.a1 g.n1 g.c1, .bool g.b2, .slice g.a2 g.n2 g.c2, .int .i64 d.co]) d ∧ Ext w w') ∨ (∃ c, R = .error c ∧ RLineE w c e w')
theorem rmay_b (nm : ByteArray) (K M : Int) (P Q : Rat) (nP : nf P ≤ 2048) (nQ : nf Q ≤ 2048) (W : World) (f g : FV) (x1 : FracR W (.agg #[.bool f.b1, .slice f.a1 f.n1 f.c1, .bool f.b2, .slice f.a2 f.n2 f.c2]) P) (x2 : FracR W (.agg #[.bool g.b1, .slice g.a1 g.n1 g.c1, .bool g.b2, .slice g.a2 g.n2 g.c2]) Q) :
  Calls Tryz.prog 48 #[.agg #[.string nm, .int .u8 K, .bool f.b1, .slice f.a1 f.n1 f.c1, .bool f.b2, .slice f.a2 f.n2 f.c2, .bool g.b1, .slice g.a1 g.n1 g.c1, .bool g.b2, .slice g.a2 g.n2 g.c2, .int .i64 M]] W fun e w' => e = .returned (.bool (mayP K M (some P) (some Q))) ∧ Ext W w' :=
 rMay_c nm K M f.b1 f.a1 f.n1 f.c1 f.b2 f.a2 f.n2 f.c2 g.b1 g.a1 g.n1 g.c1 g.b2 g.a2 g.n2 g.c2 (some P) (some Q) W (by have := x1.any (nT nP (by decide)); rwa [if_pos nP] at this) (by have := x2.any (nT nQ (by decide)); rwa [if_pos nQ] at this)
set_option maxHeartbeats 25600000 in
theorem rread_all (s : ByteArray) (w : World) (hs : s.size ≤ 65536) :
  Calls Tryz.prog 17 #[.string s] w (RRdQ w (readL s.data.toList)) := by
 have hwl := word_szJ hs
 have hcnt : (wordsL 32 s.data.toList).length ≤ 65537 := by
  have e1 := words_count 32 s.data.toList
  have e2 := list_size s
  omega
 have hne : 0 < (wordsL 32 s.data.toList).length := List.length_pos_iff.2 (wordsL_ne _ _)
 have KWS := mK (fun W => rwords_c s W hs)
 rw [readL_W]
 generalize wordsL 32 s.data.toList = ws at *
 obtain ⟨w1, hw1⟩ : ∃ w1, w1 = w.alloc (.cells #[.string ⟨#[]⟩, .int .u8 0, .bool false, .slice none 0 0, .bool false, .slice none 0 0, .bool false, .slice none 0 0, .bool false, .slice none 0 0, .int .i64 0] 56) := ⟨_, rfl⟩
 have hE1 := mK (show Ext w w1 by rw [hw1]; exact (xR w).al _)
 have z1 := mK (show w1.heap[w.heap.size]? = some (.cells #[.string ⟨#[]⟩, .int .u8 0, .bool false, .slice none 0 0, .bool false, .slice none 0 0, .bool false, .slice none 0 0, .bool false, .slice none 0 0, .int .i64 0] 56 (0, 0)) by rw [hw1]; exact heap_alloc_new _ _)
 obtain ⟨R, hR⟩ : ∃ R, R = readW ws := ⟨_, rfl⟩
 rw [← hR]
 obtain ⟨T0, hT0⟩ : ∃ T0 : ByteArray, (⟨(ws.getD 0 []).toArray⟩ : ByteArray) = T0 := ⟨_, rfl⟩
 obtain ⟨T1, hT1⟩ : ∃ T1 : ByteArray, (⟨(ws.getD 1 []).toArray⟩ : ByteArray) = T1 := ⟨_, rfl⟩
 obtain ⟨T2, hT2⟩ : ∃ T2 : ByteArray, (⟨(ws.getD 2 []).toArray⟩ : ByteArray) = T2 := ⟨_, rfl⟩
 obtain ⟨T3, hT3⟩ : ∃ T3 : ByteArray, (⟨(ws.getD 3 []).toArray⟩ : ByteArray) = T3 := ⟨_, rfl⟩
 obtain ⟨T4, hT4⟩ : ∃ T4 : ByteArray, (⟨(ws.getD 4 []).toArray⟩ : ByteArray) = T4 := ⟨_, rfl⟩
 have KO := mK (fun W => rnought_f W)
 have KK := mK (fun W => rkind_c T2 W)
 have KN := mK (fun W => rnumber_c T1 W (by rw [← hT1]; exact hwl 1))
 have KM := mK (fun W => rName_c T0 W (by have := hwl 0; rw [← hT0]; omega))
 rw [show T2.data.toList = ws.getD 2 [] by rw [← hT2]] at KK
 rw [show T1.data.toList = ws.getD 1 [] by rw [← hT1]] at KN
 rw [show T0.data.toList = ws.getD 0 [] by rw [← hT0]] at KM
 replace hwl := mK hwl
 replace hw1 := mK hw1
 replace hR := mK hR
 replace hT0 := mK hT0
 replace hT1 := mK hT1
 replace hT2 := mK hT2
 replace hT3 := mK hT3
 replace hT4 := mK hT4
 clear hs
 go_enter Tryz.func17, Tryz.ntmps17
 have tok : Tok 0 := .mk _
 go_wp2_with (replace tok : Tok 1 := nxT 0 tok; go_at_call 41; rw [← hw1.out]; refine (KWS.out w1).mono ?_; rintro e w2 ⟨v, rfl, hv, hx⟩; (obtain ⟨g, c, rfl, hg, hc⟩ := hv.at_ hne); (have z2 := mK (hx.blk z1.out)); (have E2 := mK (hE1.out.trans hx)); (have HC := mK (fun W (e : Ext w2 W) (j : Nat) (h : j < ws.length) => e.cell (hc j h))); clear hx hv hc; refine stopS ?_)
 unfold StopS
 by_cases hl : 2 < ws.length
 case neg =>
  have hl' : (ws.length : Int) < 3 := by omega
  have hRe := mK (rw_few hl)
  go_wp2_with (refine wpList_store_row rfl 56 (.tmp 2) (.tmp 22) rfl w.heap.size #[.string ⟨#[]⟩, .int .u8 0, .bool false, .slice none 0 0, .bool false, .slice none 0 0, .bool false, .slice none 0 0, .bool false, .slice none 0 0, .int .i64 0] rfl rfl 56 _ z2.out (by kernel_rfl) rfl (by kernel_rfl) ?_)
  exact bodyPost_ret (results_row_tmp rfl _ _ w.heap.size 56 #[.string ⟨#[]⟩, .int .u8 0, .bool false, .slice none 0 0, .bool false, .slice none 0 0, .bool false, .slice none 0 0, .bool false, .slice none 0 0, .int .i64 0] _ _ rfl rfl (setRow_heap _ _ _ _ _ _ z2.out) Tryz.underlying56 rfl (by kernel_rfl)) rfl (.inr ⟨5, hR.out.trans (hRe.out), rfl, E2.out.row (nR _) _⟩)
 have hl' : ¬ (ws.length : Int) < 3 := by omega
 have y1 := HC.out w2 (xR _) 1 (by omega)
 have y2 := HC.out w2 (xR _) 2 (by omega)
 rw [hT1.out] at y1
 rw [hT2.out] at y2
 replace hl := mK hl
 cases hkl : kindL (ws.getD 2 []) with
 | none =>
  rw [hkl] at KK
  have KK : Hid (∀ W, Calls Tryz.prog 42 #[.string T2] W fun e w' => e = .returned (.tuple #[.int .u8 0, .bool false]) ∧ W = w') := KK
  have KW := mK (fun W => rword_zero W)
  have hRe := mK (rw_kind hl.out hkl)
  clear hkl
  go_wp2_with (first
   | (replace tok : Tok 2 := nxT 1 tok; go_at_call 42; refine (KK.out w2).mono ?_; rintro e w3 ⟨rfl, hw3⟩; rw [← hw3]; clear hw3)
   | (replace tok : Tok 3 := nxT 2 tok; go_at_call 43; refine (KW.out w2).mono ?_; rintro e w3 ⟨rfl, hw3⟩; rw [← hw3]; clear hw3)
   | (replace tok : Tok 4 := nxT 3 tok; go_at_call 44; refine (KN.out w2).mono ?_; rintro e w3 ⟨rfl, hx⟩; (have z3 := mK (hx.blk z2.out)); (have E3 := mK (E2.out.trans hx)); clear hx)
   | (replace tok : Tok 5 := nxT 4 tok; refine wpList_store_row rfl 56 (.tmp 2) (.tmp 55) rfl w.heap.size #[.string ⟨#[]⟩, .int .u8 0, .bool false, .slice none 0 0, .bool false, .slice none 0 0, .bool false, .slice none 0 0, .bool false, .slice none 0 0, .int .i64 0] rfl rfl 56 _ z3.out (by kernel_rfl) rfl (by kernel_rfl) ?_))
  exact bodyPost_ret (results_row_tmp rfl _ _ w.heap.size 56 #[.string ⟨#[]⟩, .int .u8 0, .bool false, .slice none 0 0, .bool false, .slice none 0 0, .bool false, .slice none 0 0, .bool false, .slice none 0 0, .int .i64 0] _ _ rfl rfl (setRow_heap _ _ _ _ _ _ z3.out) Tryz.underlying56 rfl (by kernel_rfl)) rfl (.inr ⟨_, hR.out.trans (hRe.out), rfl, E3.out.row (nR _) _⟩)
 | some K =>
  rw [hkl] at KK
  have KK : Hid (∀ W, Calls Tryz.prog 42 #[.string T2] W fun e w' => e = .returned (.tuple #[.int .u8 K, .bool true]) ∧ W = w') := KK
  obtain ⟨k1, k5⟩ := kindL_range hkl
  have KW := mK (fun W => rword_c K W k1 k5)
  obtain ⟨N, hN⟩ : ∃ N, N = wordN K := ⟨_, rfl⟩
  have hN2 : N ≤ 2 := by rw [hN]; exact wordN_le K
  obtain ⟨TK, hTK⟩ : ∃ TK : ByteArray, TK = ⟨(wordB K).toArray⟩ := ⟨_, rfl⟩
  rw [← hN, ← hTK] at KW
  obtain ⟨nf', hnf⟩ : ∃ b, b = (numB (ws.getD 1 [])).isSome := ⟨_, rfl⟩
  obtain ⟨M, hM⟩ : ∃ M, M = (numB (ws.getD 1 [])).getD 0 := ⟨_, rfl⟩
  rw [← hnf, ← hM] at KN
  replace hN := mK hN
  replace hkl := mK hkl
  replace hnf := mK hnf
  replace hM := mK hM
  clear hTK
  go_wp2_with (first
   | (replace tok : Tok 2 := nxT 1 tok; go_at_call 42; refine (KK.out w2).mono ?_; rintro e w3 ⟨rfl, hw3⟩; rw [← hw3]; clear hw3)
   | (replace tok : Tok 3 := nxT 2 tok; go_at_call 43; refine (KW.out w2).mono ?_; rintro e w3 ⟨rfl, hw3⟩; rw [← hw3]; clear hw3)
   | (replace tok : Tok 4 := nxT 3 tok; go_at_call 44; refine (KN.out w2).mono ?_; rintro e w3 ⟨rfl, hx⟩; (have z3 := mK (hx.blk z2.out)); (have E3 := mK (E2.out.trans hx)); (have F3 := mK hx); clear hx y1 y2; refine stopS ?_))
  unfold StopS
  by_cases hn : ws.length = 3 + N
  case neg =>
   have hq1 : ((ws.length : Int) == 3 + (N : Int)) = false := by rw [beq_eq_false_iff_ne]; omega
   have hq2 : ((ws.length : Int) != 3 + (N : Int)) = true := by rw [bne_iff_ne]; omega
   have hRe := mK (rw_len hl.out hkl.out (by rw [← hN.out]; exact hn))
   clear hn
   cases nf' with
   | false =>
    go_wp2_with (refine wpList_store_row rfl 56 (.tmp 2) (.tmp 55) rfl w.heap.size #[.string ⟨#[]⟩, .int .u8 0, .bool false, .slice none 0 0, .bool false, .slice none 0 0, .bool false, .slice none 0 0, .bool false, .slice none 0 0, .int .i64 0] rfl rfl 56 _ z3.out (by kernel_rfl) rfl (by kernel_rfl) ?_)
    exact bodyPost_ret (results_row_tmp rfl _ _ w.heap.size 56 #[.string ⟨#[]⟩, .int .u8 0, .bool false, .slice none 0 0, .bool false, .slice none 0 0, .bool false, .slice none 0 0, .bool false, .slice none 0 0, .int .i64 0] _ _ rfl rfl (setRow_heap _ _ _ _ _ _ z3.out) Tryz.underlying56 rfl (by kernel_rfl)) rfl (.inr ⟨5, hR.out.trans (hRe.out), rfl, E3.out.row (nR _) _⟩)
   | true =>
    go_wp2_with (refine wpList_store_row rfl 56 (.tmp 2) (.tmp 55) rfl w.heap.size #[.string ⟨#[]⟩, .int .u8 0, .bool false, .slice none 0 0, .bool false, .slice none 0 0, .bool false, .slice none 0 0, .bool false, .slice none 0 0, .int .i64 0] rfl rfl 56 _ z3.out (by kernel_rfl) rfl (by kernel_rfl) ?_)
    exact bodyPost_ret (results_row_tmp rfl _ _ w.heap.size 56 #[.string ⟨#[]⟩, .int .u8 0, .bool false, .slice none 0 0, .bool false, .slice none 0 0, .bool false, .slice none 0 0, .bool false, .slice none 0 0, .int .i64 0] _ _ rfl rfl (setRow_heap _ _ _ _ _ _ z3.out) Tryz.underlying56 rfl (by kernel_rfl)) rfl (.inr ⟨5, hR.out.trans (hRe.out), rfl, E3.out.row (nR _) _⟩)
  have hq1 : ((ws.length : Int) == 3 + (N : Int)) = true := by rw [beq_iff_eq]; omega
  have hq2 : ((ws.length : Int) != 3 + (N : Int)) = false := by rw [hn]; simp
  have hn' := mK (show ws.length = 3 + wordN K by rw [← hN.out]; exact hn)
  replace hn := mK hn
  cases nf' with
  | false =>
   have hRe := mK (rw_num hl.out hkl.out hn'.out (by simpa using hnf.out.symm))
   go_wp2_with (refine wpList_store_row rfl 56 (.tmp 2) (.tmp 55) rfl w.heap.size #[.string ⟨#[]⟩, .int .u8 0, .bool false, .slice none 0 0, .bool false, .slice none 0 0, .bool false, .slice none 0 0, .bool false, .slice none 0 0, .int .i64 0] rfl rfl 56 _ z3.out (by kernel_rfl) rfl (by kernel_rfl) ?_)
   exact bodyPost_ret (results_row_tmp rfl _ _ w.heap.size 56 #[.string ⟨#[]⟩, .int .u8 0, .bool false, .slice none 0 0, .bool false, .slice none 0 0, .bool false, .slice none 0 0, .bool false, .slice none 0 0, .int .i64 0] _ _ rfl rfl (setRow_heap _ _ _ _ _ _ z3.out) Tryz.underlying56 rfl (by kernel_rfl)) rfl (.inr ⟨5, hR.out.trans (hRe.out), rfl, E3.out.row (nR _) _⟩)
  | true =>
   have hnb := mK (show numB (ws.getD 1 []) = some M by
    have h1 := hnf.out
    have h2 := hM.out
    cases hb : numB (ws.getD 1 []) with
    | none => rw [hb] at h1; cases h1
    | some m => rw [hb] at h2; exact congrArg some h2.symm)
   obtain ⟨nb, hnm⟩ : ∃ nb, nb = nameB (ws.getD 0 []) := ⟨_, rfl⟩
   rw [← hnm] at KM
   replace hnm := mK hnm
   have x0 := HC.out w3 F3.out 0 (by have := hl.out; omega)
   rw [hT0.out] at x0
   go_wp2_with (replace tok : Tok 5 := nxT 4 tok; go_at_call 45; refine (KM.out w3).mono ?_; rintro e w4 ⟨rfl, hx⟩; (have z4 := mK (hx.blk z3.out)); (have E4 := mK (E3.out.trans hx)); (have F4 := mK (F3.out.trans hx)); clear hx x0; refine stopS ?_)
   unfold StopS
   cases nb with
   | false =>
    have hRe := mK (rw_name hl.out hkl.out hn'.out hnb.out hnm.out.symm)
    go_wp2_with (refine wpList_store_row rfl 56 (.tmp 2) (.tmp 61) rfl w.heap.size #[.string ⟨#[]⟩, .int .u8 0, .bool false, .slice none 0 0, .bool false, .slice none 0 0, .bool false, .slice none 0 0, .bool false, .slice none 0 0, .int .i64 0] rfl rfl 56 _ z4.out (by kernel_rfl) rfl (by kernel_rfl) ?_)
    exact bodyPost_ret (results_row_tmp rfl _ _ w.heap.size 56 #[.string ⟨#[]⟩, .int .u8 0, .bool false, .slice none 0 0, .bool false, .slice none 0 0, .bool false, .slice none 0 0, .bool false, .slice none 0 0, .int .i64 0] _ _ rfl rfl (setRow_heap _ _ _ _ _ _ z4.out) Tryz.underlying56 rfl (by kernel_rfl)) rfl (.inr ⟨9, hR.out.trans (hRe.out), rfl, E4.out.row (nR _) _⟩)
   | true =>
    replace hR := mK (hR.out.trans (rw_tail hl.out hkl.out hn'.out hnb.out hnm.out.symm))
    clear hnm hnb hn' hkl KK KW KN KM KWS hnf hM
    go_wp2_with (first
     | (replace tok : Tok 6 := nxT 5 tok; go_at_call 46; refine (KO.out w4).mono ?_; rintro e w5 ⟨v, rfl, hv, hx⟩; (obtain ⟨a, rfl⟩ := hv.fv); (have z5 := mK (hx.blk z4.out)); (have E5 := mK (E4.out.trans hx)); (have F5 := mK (F4.out.trans hx)); (have hp5 := mK hv); clear hx hv)
     | (replace tok : Tok 7 := nxT 6 tok; go_at_call 46; refine (KO.out w5).mono ?_; rintro e w6 ⟨v, rfl, hv, hx⟩; (obtain ⟨b, rfl⟩ := hv.fv); (obtain ⟨w7, hw7⟩ : ∃ w7, w7 = w6.alloc (.cells #[.int .u8 K, .bool a.b1, .slice a.a1 a.n1 a.c1, .bool a.b2, .slice a.a2 a.n2 a.c2, .bool b.b1, .slice b.a1 b.n1 b.c1, .bool b.b2, .slice b.a2 b.n2 b.c2] 54) := ⟨_, rfl⟩); (have hx7 : Ext w6 w7 := by rw [hw7]; exact (xR w6).al _); (have z7 := mK ((hx.trans hx7).blk z5.out)); (have E7 := mK ((E5.out.trans hx).trans hx7)); (have F7 := mK ((F5.out.trans hx).trans hx7)); (have hp7 := mK (hp5.out.ext (hx.trans hx7))); (have hq7 := mK (hv.ext hx7)); (have e7 := mK (show w7.heap[w6.heap.size]? = some (.cells #[.int .u8 K, .bool a.b1, .slice a.a1 a.n1 a.c1, .bool a.b2, .slice a.a2 a.n2 a.c2, .bool b.b1, .slice b.a1 b.n1 b.c1, .bool b.b2, .slice b.a2 b.n2 b.c2] 54 (0, 0)) by rw [hw7]; exact heap_alloc_new _ _)); (have hlw := mK (Nat.lt_of_lt_of_le (Array.getElem?_eq_some_iff.1 z5.out).1 hx.size)); (have hl2 := mK ((F5.out.trans hx).size)); replace hw7 := mK hw7; clear hx hx7 hv; refine stopS ?_))
    unfold StopS
    by_cases h0 : 0 < N
    case neg =>
     have h0' : ¬ (0 : Int) < N := by omega
     have h1' : ¬ (1 : Int) < N := by omega
     have hRt := mK (rt_ok (ws := ws) (K := K) (M := M) (p := 0) (q := 0) (by rw [decide_eq_false (by rw [← hN.out]; omega)]; rfl) (by rw [decide_eq_false (by rw [← hN.out]; omega)]; rfl))
     clear h0
     go_wp2_with fail
     rw [← hw7.out]
     have HP := mK (show FracR w7 (.agg #[.bool a.b1, .slice a.a1 a.n1 a.c1, .bool a.b2, .slice a.a2 a.n2 a.c2]) (0) from hp7.out)
     have HQ := mK (show FracR w7 (.agg #[.bool b.b1, .slice b.a1 b.n1 b.c1, .bool b.b2, .slice b.a2 b.n2 b.c2]) (0) from hq7.out)
     have HE := mK e7.out
     have HZ := mK z7.out
     have HEW := mK (E7.out)
     have KY := mK (fun W => rmay_b T0 K M (0) (0) nf_none nf_none W a b)
     have hRm := mK (hR.out.trans hRt.out)
     obtain ⟨B, hB⟩ : ∃ B, B = mayP K M (some (0)) (some (0)) := ⟨_, rfl⟩
     rw [← hB] at KY hRm
     rw [hT0.out] at hRm
     replace hB := mK hB
     have c0 := mK (fun W' (e : Ext w7 W') => (HC.out W' (F7.out.trans e) 0 (by have := hl.out; omega)))
     rw [hT0.out] at c0
     apply region_ext [.val (.slice (some ⟨g, 0, none⟩) ws.length c), .val (.pointer (some ⟨g, 0, none⟩)), .val (.string T0), .val (.agg #[.int .u8 K, .bool a.b1, .slice a.a1 a.n1 a.c1, .bool a.b2, .slice a.a2 a.n2 a.c2, .bool b.b1, .slice b.a1 b.n1 b.c1, .bool b.b2, .slice b.a2 b.n2 b.c2]), .val (.int .i64 M), .val (.agg #[.string T0, .int .u8 K, .bool a.b1, .slice a.a1 a.n1 a.c1, .bool a.b2, .slice a.a2 a.n2 a.c2, .bool b.b1, .slice b.a1 b.n1 b.c1, .bool b.b2, .slice b.a2 b.n2 b.c2, .int .i64 M]), .pred (VarAt w7.heap.size #[.string ⟨#[]⟩, .int .u8 0, .bool false, .slice none 0 0, .bool false, .slice none 0 0, .bool false, .slice none 0 0, .bool false, .slice none 0 0, .int .i64 0] 56)] (by kernel_rfl) (stable_vals _ (stable_vals _ (stable_vals _ (stable_vals _ (stable_vals _ (stable_vals _ (st_varK _ _ _ trivial)))))))
     iterate 2 (refine ⟨fun W hW _ => by go_simp; first | exact ⟨xR _, rfl⟩ | exact xR _, ?_⟩)
     refine ⟨fun W hW _ => by have := c0.out W hW; go_simp; first | exact ⟨xR _, rfl⟩ | exact xR _, ?_⟩
     refine ⟨?ld, ?_⟩
     case ld =>
      intro W hW hF
      have hr := hW.blk HE.out
      with_reducible refine fr_load ?zhw 54 (.tmp 11) ?zho w6.heap.size ?zhx 54 #[.int .u8 K, .bool a.b1, .slice a.a1 a.n1 a.c1, .bool a.b2, .slice a.a2 a.n2 a.c2, .bool b.b1, .slice b.a1 b.n1 b.c1, .bool b.b2, .slice b.a2 b.n2 b.c2] (0, 0) _ hr Tryz.underlying54 ?zhd ?zhi ?zh
      case zhw => kernel_rfl
      case zho => rfl
      case zhx => kernel_rfl
      case zhd => rfl
      case zhi => kernel_rfl
      case zh => exact ⟨xR _, rfl⟩
     iterate 2 (refine ⟨fun W hW _ => by go_simp; first | exact ⟨xR _, rfl⟩ | exact xR _, ?_⟩)
     refine ⟨fun W hW hF => ?al, fun v6 => fun W hW hF => ?fin⟩
     case al =>
      have hnv := new_var (b := w7.heap.size) (cs := #[.string ⟨#[]⟩, .int .u8 0, .bool false, .slice none 0 0, .bool false, .slice none 0 0, .bool false, .slice none 0 0, .bool false, .slice none 0 0, .int .i64 0]) (T := 56) W hW.size
      replace hnv := mK hnv
      go_simp
      exact ⟨hnv.out.1, hnv.out.2.1⟩
     case fin =>
      obtain ⟨gd, rfl, hgb, hgd⟩ := hF.1 rfl
      obtain ⟨w20, hw20⟩ : ∃ w20, w20 = W.setRow gd #[.string T0, .int .u8 K, .bool a.b1, .slice a.a1 a.n1 a.c1, .bool a.b2, .slice a.a2 a.n2 a.c2, .bool b.b1, .slice b.a1 b.n1 b.c1, .bool b.b2, .slice b.a2 b.n2 b.c2, .int .i64 M] := ⟨_, rfl⟩
      have x20 : Ext w7 w20 := by rw [hw20]; exact hW.row hgb _
      have y20 := mK (show w20.heap[gd]? = some (.cells #[.string T0, .int .u8 K, .bool a.b1, .slice a.a1 a.n1 a.c1, .bool a.b2, .slice a.a2 a.n2 a.c2, .bool b.b1, .slice b.a1 b.n1 b.c1, .bool b.b2, .slice b.a2 b.n2 b.c2, .int .i64 M] 56 (0, 0)) by rw [hw20]; exact setRow_heap _ _ _ _ _ _ hgd)
      have hp20 := mK (HP.out.ext x20)
      have hq20 := mK (HQ.out.ext x20)
      have z20 := mK (x20.blk HZ.out)
      have E20 := mK (HEW.out.trans x20)
      replace hw20 := mK hw20
      replace hgd := mK hgd
      clear hF hW x20 hgb
      go_simp
      have tok : Tok 30 := .mk _
      go_wp2_with (first
       | (replace tok : Tok 31 := nxT 30 tok; refine wpList_store_row rfl 56 (.tmp 16) (.tmp 101) rfl gd #[.string T0, .int .u8 K, .bool a.b1, .slice a.a1 a.n1 a.c1, .bool a.b2, .slice a.a2 a.n2 a.c2, .bool b.b1, .slice b.a1 b.n1 b.c1, .bool b.b2, .slice b.a2 b.n2 b.c2, .int .i64 M] rfl rfl 56 _ hgd.out (by kernel_rfl) rfl (by kernel_rfl) ?_; rw [← hw20.out])
       | (replace tok : Tok 32 := nxT 31 tok; refine wpList_load_row (by rfl) 56 (.tmp 16) rfl gd rfl 56 #[.string T0, .int .u8 K, .bool a.b1, .slice a.a1 a.n1 a.c1, .bool a.b2, .slice a.a2 a.n2 a.c2, .bool b.b1, .slice b.a1 b.n1 b.c1, .bool b.b2, .slice b.a2 b.n2 b.c2, .int .i64 M] (0, 0) _ y20.out Tryz.underlying56 rfl (by kernel_rfl) ?_)
       | (replace tok : Tok 33 := nxT 32 tok; go_at_call 48; refine (KY.out w20 hp20.out hq20.out).mono ?_; rintro e w21 ⟨rfl, hx⟩; (have y21 := mK (hx.blk y20.out)); (have z21 := mK (hx.blk z20.out)); (have E21 := mK (E20.out.trans hx)); (have hp21 := mK (hp20.out.ext hx)); (have hq21 := mK (hq20.out.ext hx)); clear hx; refine stopS ?_))
      unfold StopS
      cases B with
      | true =>
       go_wp2_with (first
        | (replace tok : Tok 34 := nxT 33 tok; refine wpList_load_row (by rfl) 56 (.tmp 16) rfl gd rfl 56 #[.string T0, .int .u8 K, .bool a.b1, .slice a.a1 a.n1 a.c1, .bool a.b2, .slice a.a2 a.n2 a.c2, .bool b.b1, .slice b.a1 b.n1 b.c1, .bool b.b2, .slice b.a2 b.n2 b.c2, .int .i64 M] (0, 0) _ y21.out Tryz.underlying56 rfl (by kernel_rfl) ?_)
        | (replace tok : Tok 35 := nxT 34 tok; refine wpList_store_row rfl 56 (.tmp 2) (.tmp 106) rfl w.heap.size #[.string T0, .int .u8 K, .bool a.b1, .slice a.a1 a.n1 a.c1, .bool a.b2, .slice a.a2 a.n2 a.c2, .bool b.b1, .slice b.a1 b.n1 b.c1, .bool b.b2, .slice b.a2 b.n2 b.c2, .int .i64 M] rfl rfl 56 _ z21.out (by kernel_rfl) rfl (by kernel_rfl) ?_))
       exact bodyPost_ret (results_row_tmp rfl _ _ w.heap.size 56 #[.string T0, .int .u8 K, .bool a.b1, .slice a.a1 a.n1 a.c1, .bool a.b2, .slice a.a2 a.n2 a.c2, .bool b.b1, .slice b.a1 b.n1 b.c1, .bool b.b2, .slice b.a2 b.n2 b.c2, .int .i64 M] _ _ rfl rfl (setRow_heap _ _ _ _ _ _ z21.out) Tryz.underlying56 rfl (by kernel_rfl)) rfl (.inl ⟨⟨T0, K, 0, 0, M⟩, hRm.out.trans (by simp), a, b, rfl, PartR.mk (d := ⟨T0, K, 0, 0, M⟩) (hp21.out.f32 z21.out (by simp [f32V]) _) (hq21.out.f32 z21.out (by simp [f32V]) _), E21.out.row (nR _) _⟩)
      | false =>
       go_wp2_with (refine wpList_store_row rfl 56 (.tmp 2) (.tmp 105) rfl w.heap.size #[.string ⟨#[]⟩, .int .u8 0, .bool false, .slice none 0 0, .bool false, .slice none 0 0, .bool false, .slice none 0 0, .bool false, .slice none 0 0, .int .i64 0] rfl rfl 56 _ z21.out (by kernel_rfl) rfl (by kernel_rfl) ?_)
       exact bodyPost_ret (results_row_tmp rfl _ _ w.heap.size 56 #[.string ⟨#[]⟩, .int .u8 0, .bool false, .slice none 0 0, .bool false, .slice none 0 0, .bool false, .slice none 0 0, .bool false, .slice none 0 0, .int .i64 0] _ _ rfl rfl (setRow_heap _ _ _ _ _ _ z21.out) Tryz.underlying56 rfl (by kernel_rfl)) rfl (.inr ⟨1, hRm.out.trans (by simp), rfl, E21.out.row (nR _) _⟩)
    have h0' : (0 : Int) < N := by omega
    have hb3 : (3 : Int) < (ws.length : Int) := by have := hn.out; omega
    have x8 := HC.out w7 F7.out 3 (by omega)
    rw [hT3.out, hw7.out] at x8
    cases hP : fracL true (ws.getD 3 []) with
    | error c =>
     have hcb : (c != 0) = true := by have := fracL_code hP; rw [bne_iff_ne]; omega
     have KP := mK (fun W => frac_bad T3 c W (by rw [← hT3.out]; exact hwl.out 3) (by rw [← hT3.out]; exact hP))
     have hRt := mK (rt_e1 (M := M) (by rw [← hN.out]; exact h0) hP)
     clear hP h0
     go_wp2_with (first
      | (replace tok : Tok 8 := nxT 7 tok; go_at_call 47; rw [← hw7.out]; refine (KP.out w7).mono ?_; rintro e w8 ⟨f, rfl, hx⟩; (have hxC := hx.al (.cells #[.bool f.b1, .slice f.a1 f.n1 f.c1, .bool f.b2, .slice f.a2 f.n2 f.c2] 52)); (have zC := mK (hxC.blk z7.out)); (have EC := mK (E7.out.trans hxC)); clear hx hxC x8)
      | (replace tok : Tok 9 := nxT 8 tok; refine wpList_store_row rfl 56 (.tmp 2) (.tmp 77) rfl w.heap.size #[.string ⟨#[]⟩, .int .u8 0, .bool false, .slice none 0 0, .bool false, .slice none 0 0, .bool false, .slice none 0 0, .bool false, .slice none 0 0, .int .i64 0] rfl rfl 56 _ zC.out (by kernel_rfl) rfl (by kernel_rfl) ?_))
     exact bodyPost_ret (results_row_tmp rfl _ _ w.heap.size 56 #[.string ⟨#[]⟩, .int .u8 0, .bool false, .slice none 0 0, .bool false, .slice none 0 0, .bool false, .slice none 0 0, .bool false, .slice none 0 0, .int .i64 0] _ _ rfl rfl (setRow_heap _ _ _ _ _ _ zC.out) Tryz.underlying56 rfl (by kernel_rfl)) rfl (.inr ⟨_, hR.out.trans (hRt.out), rfl, EC.out.row (nR _) _⟩)
    | ok p =>
     have np := fracL_nf hP
     have KP := mK (fun W => frac_okK T3 p W (by rw [← hT3.out]; exact hwl.out 3) (by rw [← hT3.out]; exact hP))
     replace hP := mK hP
     have h0h := mK h0
     clear h0
     go_wp2_with (first
      | (replace tok : Tok 8 := nxT 7 tok; go_at_call 47; rw [← hw7.out]; refine (KP.out w7).mono ?_; rintro e w8 ⟨f, rfl, hx, hf⟩; (obtain ⟨w9, hw9⟩ : ∃ w9, w9 = w8.alloc (.cells #[.bool f.b1, .slice f.a1 f.n1 f.c1, .bool f.b2, .slice f.a2 f.n2 f.c2] 52) := ⟨_, rfl⟩); (have hx9 : Ext w8 w9 := by rw [hw9]; exact (xR w8).al _); (have z9 := mK ((hx.trans hx9).blk z7.out)); (have E9 := mK ((E7.out.trans hx).trans hx9)); (have F9 := mK ((F7.out.trans hx).trans hx9)); (have hp9 := mK (hf.ext hx9)); (have hq9 := mK (hq7.out.ext (hx.trans hx9))); (have e9 := mK ((hx.trans hx9).blk e7.out)); replace hw9 := mK hw9; clear hx hx9 x8 hf)
      | (replace tok : Tok 9 := nxT 8 tok; rw [← hw9.out]; refine wpList_store_sub rfl 52 (.tmp 80) (.tmp 79) rfl w6.heap.size 1 rfl 54 #[.int .u8 K, .bool a.b1, .slice a.a1 a.n1 a.c1, .bool a.b2, .slice a.a2 a.n2 a.c2, .bool b.b1, .slice b.a1 b.n1 b.c1, .bool b.b2, .slice b.a2 b.n2 b.c2] #[.int .u8 K, .bool f.b1, .slice f.a1 f.n1 f.c1, .bool f.b2, .slice f.a2 f.n2 f.c2, .bool b.b1, .slice b.a1 b.n1 b.c1, .bool b.b2, .slice b.a2 b.n2 b.c2] #[.bool f.b1, .slice f.a1 f.n1 f.c1, .bool f.b2, .slice f.a2 f.n2 f.c2] rfl e9.out (by kernel_rfl) (by simp) (by kernel_rfl) (by kernel_rfl) ?_; (obtain ⟨wA, hwA⟩ : ∃ wA, wA = w9.setRow w6.heap.size #[.int .u8 K, .bool f.b1, .slice f.a1 f.n1 f.c1, .bool f.b2, .slice f.a2 f.n2 f.c2, .bool b.b1, .slice b.a1 b.n1 b.c1, .bool b.b2, .slice b.a2 b.n2 b.c2] := ⟨_, rfl⟩); rw [← hwA]; (have zA := mK (show wA.heap[w.heap.size]? = some (.cells #[.string ⟨#[]⟩, .int .u8 0, .bool false, .slice none 0 0, .bool false, .slice none 0 0, .bool false, .slice none 0 0, .bool false, .slice none 0 0, .int .i64 0] 56 (0, 0)) by rw [hwA, setRow_other _ _ _ _ (by have := hlw.out; omega)]; exact z9.out)); (have EA := mK (show Ext w wA by rw [hwA]; exact E9.out.row (by have := hlw.out; omega) _)); (have FA := mK (show Ext w2 wA by rw [hwA]; exact F9.out.row hl2.out _)); (have eA := mK (show wA.heap[w6.heap.size]? = some (.cells #[.int .u8 K, .bool f.b1, .slice f.a1 f.n1 f.c1, .bool f.b2, .slice f.a2 f.n2 f.c2, .bool b.b1, .slice b.a1 b.n1 b.c1, .bool b.b2, .slice b.a2 b.n2 b.c2] 54 (0, 0)) by rw [hwA]; exact setRow_heap _ _ _ _ _ _ e9.out)); (have hpA := mK (show FracR wA (.agg #[.bool f.b1, .slice f.a1 f.n1 f.c1, .bool f.b2, .slice f.a2 f.n2 f.c2]) p by rw [hwA]; exact hp9.out.f32 e9.out (by simp [f32V]) _)); (have hqA := mK (show FracR wA (.agg #[.bool b.b1, .slice b.a1 b.n1 b.c1, .bool b.b2, .slice b.a2 b.n2 b.c2]) 0 by rw [hwA]; exact hq9.out.f32 e9.out (by simp [f32V]) _)); clear hwA; refine stopS ?_))
     unfold StopS
     by_cases h1 : 1 < N
     case neg =>
      have h1' : ¬ (1 : Int) < N := by omega
      have hRt := mK (rt_ok (ws := ws) (K := K) (M := M) (p := p) (q := 0) (by rw [decide_eq_true (by rw [← hN.out]; exact h0h.out)]; exact hP.out) (by rw [decide_eq_false (by rw [← hN.out]; exact h1)]; rfl))
      clear h1
      go_wp2_with fail
      have HP := mK (show FracR wA (.agg #[.bool f.b1, .slice f.a1 f.n1 f.c1, .bool f.b2, .slice f.a2 f.n2 f.c2]) (p) from hpA.out)
      have HQ := mK (show FracR wA (.agg #[.bool b.b1, .slice b.a1 b.n1 b.c1, .bool b.b2, .slice b.a2 b.n2 b.c2]) (0) from hqA.out)
      have HE := mK eA.out
      have HZ := mK zA.out
      have HEW := mK (EA.out)
      have KY := mK (fun W => rmay_b T0 K M (p) (0) np nf_none W f b)
      have hRm := mK (hR.out.trans hRt.out)
      obtain ⟨B, hB⟩ : ∃ B, B = mayP K M (some (p)) (some (0)) := ⟨_, rfl⟩
      rw [← hB] at KY hRm
      rw [hT0.out] at hRm
      replace hB := mK hB
      have c0 := mK (fun W' (e : Ext wA W') => (HC.out W' (FA.out.trans e) 0 (by have := hl.out; omega)))
      rw [hT0.out] at c0
      apply region_ext [.val (.slice (some ⟨g, 0, none⟩) ws.length c), .val (.pointer (some ⟨g, 0, none⟩)), .val (.string T0), .val (.agg #[.int .u8 K, .bool f.b1, .slice f.a1 f.n1 f.c1, .bool f.b2, .slice f.a2 f.n2 f.c2, .bool b.b1, .slice b.a1 b.n1 b.c1, .bool b.b2, .slice b.a2 b.n2 b.c2]), .val (.int .i64 M), .val (.agg #[.string T0, .int .u8 K, .bool f.b1, .slice f.a1 f.n1 f.c1, .bool f.b2, .slice f.a2 f.n2 f.c2, .bool b.b1, .slice b.a1 b.n1 b.c1, .bool b.b2, .slice b.a2 b.n2 b.c2, .int .i64 M]), .pred (VarAt wA.heap.size #[.string ⟨#[]⟩, .int .u8 0, .bool false, .slice none 0 0, .bool false, .slice none 0 0, .bool false, .slice none 0 0, .bool false, .slice none 0 0, .int .i64 0] 56)] (by kernel_rfl) (stable_vals _ (stable_vals _ (stable_vals _ (stable_vals _ (stable_vals _ (stable_vals _ (st_varK _ _ _ trivial)))))))
      iterate 2 (refine ⟨fun W hW _ => by go_simp; first | exact ⟨xR _, rfl⟩ | exact xR _, ?_⟩)
      refine ⟨fun W hW _ => by have := c0.out W hW; go_simp; first | exact ⟨xR _, rfl⟩ | exact xR _, ?_⟩
      refine ⟨?ld, ?_⟩
      case ld =>
       intro W hW hF
       have hr := hW.blk HE.out
       with_reducible refine fr_load ?zhw 54 (.tmp 11) ?zho w6.heap.size ?zhx 54 #[.int .u8 K, .bool f.b1, .slice f.a1 f.n1 f.c1, .bool f.b2, .slice f.a2 f.n2 f.c2, .bool b.b1, .slice b.a1 b.n1 b.c1, .bool b.b2, .slice b.a2 b.n2 b.c2] (0, 0) _ hr Tryz.underlying54 ?zhd ?zhi ?zh
       case zhw => kernel_rfl
       case zho => rfl
       case zhx => kernel_rfl
       case zhd => rfl
       case zhi => kernel_rfl
       case zh => exact ⟨xR _, rfl⟩
      iterate 2 (refine ⟨fun W hW _ => by go_simp; first | exact ⟨xR _, rfl⟩ | exact xR _, ?_⟩)
      refine ⟨fun W hW hF => ?al, fun v6 => fun W hW hF => ?fin⟩
      case al =>
       have hnv := new_var (b := wA.heap.size) (cs := #[.string ⟨#[]⟩, .int .u8 0, .bool false, .slice none 0 0, .bool false, .slice none 0 0, .bool false, .slice none 0 0, .bool false, .slice none 0 0, .int .i64 0]) (T := 56) W hW.size
       replace hnv := mK hnv
       go_simp
       exact ⟨hnv.out.1, hnv.out.2.1⟩
      case fin =>
       obtain ⟨gd, rfl, hgb, hgd⟩ := hF.1 rfl
       obtain ⟨w20, hw20⟩ : ∃ w20, w20 = W.setRow gd #[.string T0, .int .u8 K, .bool f.b1, .slice f.a1 f.n1 f.c1, .bool f.b2, .slice f.a2 f.n2 f.c2, .bool b.b1, .slice b.a1 b.n1 b.c1, .bool b.b2, .slice b.a2 b.n2 b.c2, .int .i64 M] := ⟨_, rfl⟩
       have x20 : Ext wA w20 := by rw [hw20]; exact hW.row hgb _
       have y20 := mK (show w20.heap[gd]? = some (.cells #[.string T0, .int .u8 K, .bool f.b1, .slice f.a1 f.n1 f.c1, .bool f.b2, .slice f.a2 f.n2 f.c2, .bool b.b1, .slice b.a1 b.n1 b.c1, .bool b.b2, .slice b.a2 b.n2 b.c2, .int .i64 M] 56 (0, 0)) by rw [hw20]; exact setRow_heap _ _ _ _ _ _ hgd)
       have hp20 := mK (HP.out.ext x20)
       have hq20 := mK (HQ.out.ext x20)
       have z20 := mK (x20.blk HZ.out)
       have E20 := mK (HEW.out.trans x20)
       replace hw20 := mK hw20
       replace hgd := mK hgd
       clear hF hW x20 hgb
       go_simp
       have tok : Tok 30 := .mk _
       go_wp2_with (first
        | (replace tok : Tok 31 := nxT 30 tok; refine wpList_store_row rfl 56 (.tmp 16) (.tmp 101) rfl gd #[.string T0, .int .u8 K, .bool f.b1, .slice f.a1 f.n1 f.c1, .bool f.b2, .slice f.a2 f.n2 f.c2, .bool b.b1, .slice b.a1 b.n1 b.c1, .bool b.b2, .slice b.a2 b.n2 b.c2, .int .i64 M] rfl rfl 56 _ hgd.out (by kernel_rfl) rfl (by kernel_rfl) ?_; rw [← hw20.out])
        | (replace tok : Tok 32 := nxT 31 tok; refine wpList_load_row (by rfl) 56 (.tmp 16) rfl gd rfl 56 #[.string T0, .int .u8 K, .bool f.b1, .slice f.a1 f.n1 f.c1, .bool f.b2, .slice f.a2 f.n2 f.c2, .bool b.b1, .slice b.a1 b.n1 b.c1, .bool b.b2, .slice b.a2 b.n2 b.c2, .int .i64 M] (0, 0) _ y20.out Tryz.underlying56 rfl (by kernel_rfl) ?_)
        | (replace tok : Tok 33 := nxT 32 tok; go_at_call 48; refine (KY.out w20 hp20.out hq20.out).mono ?_; rintro e w21 ⟨rfl, hx⟩; (have y21 := mK (hx.blk y20.out)); (have z21 := mK (hx.blk z20.out)); (have E21 := mK (E20.out.trans hx)); (have hp21 := mK (hp20.out.ext hx)); (have hq21 := mK (hq20.out.ext hx)); clear hx; refine stopS ?_))
       unfold StopS
       cases B with
       | true =>
        go_wp2_with (first
         | (replace tok : Tok 34 := nxT 33 tok; refine wpList_load_row (by rfl) 56 (.tmp 16) rfl gd rfl 56 #[.string T0, .int .u8 K, .bool f.b1, .slice f.a1 f.n1 f.c1, .bool f.b2, .slice f.a2 f.n2 f.c2, .bool b.b1, .slice b.a1 b.n1 b.c1, .bool b.b2, .slice b.a2 b.n2 b.c2, .int .i64 M] (0, 0) _ y21.out Tryz.underlying56 rfl (by kernel_rfl) ?_)
         | (replace tok : Tok 35 := nxT 34 tok; refine wpList_store_row rfl 56 (.tmp 2) (.tmp 106) rfl w.heap.size #[.string T0, .int .u8 K, .bool f.b1, .slice f.a1 f.n1 f.c1, .bool f.b2, .slice f.a2 f.n2 f.c2, .bool b.b1, .slice b.a1 b.n1 b.c1, .bool b.b2, .slice b.a2 b.n2 b.c2, .int .i64 M] rfl rfl 56 _ z21.out (by kernel_rfl) rfl (by kernel_rfl) ?_))
        exact bodyPost_ret (results_row_tmp rfl _ _ w.heap.size 56 #[.string T0, .int .u8 K, .bool f.b1, .slice f.a1 f.n1 f.c1, .bool f.b2, .slice f.a2 f.n2 f.c2, .bool b.b1, .slice b.a1 b.n1 b.c1, .bool b.b2, .slice b.a2 b.n2 b.c2, .int .i64 M] _ _ rfl rfl (setRow_heap _ _ _ _ _ _ z21.out) Tryz.underlying56 rfl (by kernel_rfl)) rfl (.inl ⟨⟨T0, K, p, 0, M⟩, hRm.out.trans (by simp), f, b, rfl, PartR.mk (d := ⟨T0, K, p, 0, M⟩) (hp21.out.f32 z21.out (by simp [f32V]) _) (hq21.out.f32 z21.out (by simp [f32V]) _), E21.out.row (nR _) _⟩)
       | false =>
        go_wp2_with (refine wpList_store_row rfl 56 (.tmp 2) (.tmp 105) rfl w.heap.size #[.string ⟨#[]⟩, .int .u8 0, .bool false, .slice none 0 0, .bool false, .slice none 0 0, .bool false, .slice none 0 0, .bool false, .slice none 0 0, .int .i64 0] rfl rfl 56 _ z21.out (by kernel_rfl) rfl (by kernel_rfl) ?_)
        exact bodyPost_ret (results_row_tmp rfl _ _ w.heap.size 56 #[.string ⟨#[]⟩, .int .u8 0, .bool false, .slice none 0 0, .bool false, .slice none 0 0, .bool false, .slice none 0 0, .bool false, .slice none 0 0, .int .i64 0] _ _ rfl rfl (setRow_heap _ _ _ _ _ _ z21.out) Tryz.underlying56 rfl (by kernel_rfl)) rfl (.inr ⟨1, hRm.out.trans (by simp), rfl, E21.out.row (nR _) _⟩)
     have h1' : (1 : Int) < N := by omega
     have hb4 : (4 : Int) < (ws.length : Int) := by have := hn.out; omega
     have vA := HC.out wA FA.out 4 (by omega)
     rw [hT4.out] at vA
     cases hQ : fracL true (ws.getD 4 []) with
     | error c =>
      have hcb : (c != 0) = true := by have := fracL_code hQ; rw [bne_iff_ne]; omega
      have KX := mK (fun W => frac_bad T4 c W (by rw [← hT4.out]; exact hwl.out 4) (by rw [← hT4.out]; exact hQ))
      have hRt := mK (rt_e2 (M := M) (by rw [← hN.out]; exact h1) hP.out hQ)
      clear hQ h1
      go_wp2_with (first
       | (replace tok : Tok 10 := nxT 9 tok; go_at_call 47; refine (KX.out wA).mono ?_; rintro e wB ⟨f2, rfl, hx⟩; (have hxC := hx.al (.cells #[.bool f2.b1, .slice f2.a1 f2.n1 f2.c1, .bool f2.b2, .slice f2.a2 f2.n2 f2.c2] 52)); (have zC := mK (hxC.blk zA.out)); (have EC := mK (EA.out.trans hxC)); clear hx hxC vA)
       | (replace tok : Tok 11 := nxT 10 tok; refine wpList_store_row rfl 56 (.tmp 2) (.tmp 92) rfl w.heap.size #[.string ⟨#[]⟩, .int .u8 0, .bool false, .slice none 0 0, .bool false, .slice none 0 0, .bool false, .slice none 0 0, .bool false, .slice none 0 0, .int .i64 0] rfl rfl 56 _ zC.out (by kernel_rfl) rfl (by kernel_rfl) ?_))
      exact bodyPost_ret (results_row_tmp rfl _ _ w.heap.size 56 #[.string ⟨#[]⟩, .int .u8 0, .bool false, .slice none 0 0, .bool false, .slice none 0 0, .bool false, .slice none 0 0, .bool false, .slice none 0 0, .int .i64 0] _ _ rfl rfl (setRow_heap _ _ _ _ _ _ zC.out) Tryz.underlying56 rfl (by kernel_rfl)) rfl (.inr ⟨_, hR.out.trans (hRt.out), rfl, EC.out.row (nR _) _⟩)
     | ok q =>
      have nq := fracL_nf hQ
      have KQ := mK (fun W => frac_okK T4 q W (by rw [← hT4.out]; exact hwl.out 4) (by rw [← hT4.out]; exact hQ))
      have hRt := mK (rt_ok (ws := ws) (K := K) (M := M) (p := p) (q := q) (by rw [decide_eq_true (by rw [← hN.out]; exact h0h.out)]; exact hP.out) (by rw [decide_eq_true (by rw [← hN.out]; exact h1)]; exact hQ))
      clear hQ h1
      go_wp2_with (first
       | (replace tok : Tok 10 := nxT 9 tok; go_at_call 47; refine (KQ.out wA).mono ?_; rintro e wB ⟨f2, rfl, hx, hf⟩; (obtain ⟨wC, hwC⟩ : ∃ wC, wC = wB.alloc (.cells #[.bool f2.b1, .slice f2.a1 f2.n1 f2.c1, .bool f2.b2, .slice f2.a2 f2.n2 f2.c2] 52) := ⟨_, rfl⟩); (have hxC : Ext wB wC := by rw [hwC]; exact (xR wB).al _); (have zC := mK ((hx.trans hxC).blk zA.out)); (have EC := mK ((EA.out.trans hx).trans hxC)); (have FC := mK ((FA.out.trans hx).trans hxC)); (have hpC := mK (hpA.out.ext (hx.trans hxC))); (have hqC := mK (hf.ext hxC)); (have eC := mK ((hx.trans hxC).blk eA.out)); replace hwC := mK hwC; clear hx hxC vA hf)
       | (replace tok : Tok 11 := nxT 10 tok; rw [← hwC.out]; refine wpList_store_sub rfl 52 (.tmp 95) (.tmp 94) rfl w6.heap.size 5 rfl 54 #[.int .u8 K, .bool f.b1, .slice f.a1 f.n1 f.c1, .bool f.b2, .slice f.a2 f.n2 f.c2, .bool b.b1, .slice b.a1 b.n1 b.c1, .bool b.b2, .slice b.a2 b.n2 b.c2] #[.int .u8 K, .bool f.b1, .slice f.a1 f.n1 f.c1, .bool f.b2, .slice f.a2 f.n2 f.c2, .bool f2.b1, .slice f2.a1 f2.n1 f2.c1, .bool f2.b2, .slice f2.a2 f2.n2 f2.c2] #[.bool f2.b1, .slice f2.a1 f2.n1 f2.c1, .bool f2.b2, .slice f2.a2 f2.n2 f2.c2] rfl eC.out (by kernel_rfl) (by simp) (by kernel_rfl) (by kernel_rfl) ?_; (obtain ⟨wD, hwD⟩ : ∃ wD, wD = wC.setRow w6.heap.size #[.int .u8 K, .bool f.b1, .slice f.a1 f.n1 f.c1, .bool f.b2, .slice f.a2 f.n2 f.c2, .bool f2.b1, .slice f2.a1 f2.n1 f2.c1, .bool f2.b2, .slice f2.a2 f2.n2 f2.c2] := ⟨_, rfl⟩); rw [← hwD]; (have zD := mK (show wD.heap[w.heap.size]? = some (.cells #[.string ⟨#[]⟩, .int .u8 0, .bool false, .slice none 0 0, .bool false, .slice none 0 0, .bool false, .slice none 0 0, .bool false, .slice none 0 0, .int .i64 0] 56 (0, 0)) by rw [hwD, setRow_other _ _ _ _ (by have := hlw.out; omega)]; exact zC.out)); (have ED := mK (show Ext w wD by rw [hwD]; exact EC.out.row (by have := hlw.out; omega) _)); (have FD := mK (show Ext w2 wD by rw [hwD]; exact FC.out.row hl2.out _)); (have eD := mK (show wD.heap[w6.heap.size]? = some (.cells #[.int .u8 K, .bool f.b1, .slice f.a1 f.n1 f.c1, .bool f.b2, .slice f.a2 f.n2 f.c2, .bool f2.b1, .slice f2.a1 f2.n1 f2.c1, .bool f2.b2, .slice f2.a2 f2.n2 f2.c2] 54 (0, 0)) by rw [hwD]; exact setRow_heap _ _ _ _ _ _ eC.out)); (have hpD := mK (show FracR wD (.agg #[.bool f.b1, .slice f.a1 f.n1 f.c1, .bool f.b2, .slice f.a2 f.n2 f.c2]) p by rw [hwD]; exact hpC.out.f32 eC.out (by simp [f32V]) _)); (have hqD := mK (show FracR wD (.agg #[.bool f2.b1, .slice f2.a1 f2.n1 f2.c1, .bool f2.b2, .slice f2.a2 f2.n2 f2.c2]) q by rw [hwD]; exact hqC.out.f32 eC.out (by simp [f32V]) _)); clear hwD))
      have HP := mK (show FracR wD (.agg #[.bool f.b1, .slice f.a1 f.n1 f.c1, .bool f.b2, .slice f.a2 f.n2 f.c2]) (p) from hpD.out)
      have HQ := mK (show FracR wD (.agg #[.bool f2.b1, .slice f2.a1 f2.n1 f2.c1, .bool f2.b2, .slice f2.a2 f2.n2 f2.c2]) (q) from hqD.out)
      have HE := mK eD.out
      have HZ := mK zD.out
      have HEW := mK (ED.out)
      have KY := mK (fun W => rmay_b T0 K M (p) (q) np nq W f f2)
      have hRm := mK (hR.out.trans hRt.out)
      obtain ⟨B, hB⟩ : ∃ B, B = mayP K M (some (p)) (some (q)) := ⟨_, rfl⟩
      rw [← hB] at KY hRm
      rw [hT0.out] at hRm
      replace hB := mK hB
      have c0 := mK (fun W' (e : Ext wD W') => (HC.out W' (FD.out.trans e) 0 (by have := hl.out; omega)))
      rw [hT0.out] at c0
      apply region_ext [.val (.slice (some ⟨g, 0, none⟩) ws.length c), .val (.pointer (some ⟨g, 0, none⟩)), .val (.string T0), .val (.agg #[.int .u8 K, .bool f.b1, .slice f.a1 f.n1 f.c1, .bool f.b2, .slice f.a2 f.n2 f.c2, .bool f2.b1, .slice f2.a1 f2.n1 f2.c1, .bool f2.b2, .slice f2.a2 f2.n2 f2.c2]), .val (.int .i64 M), .val (.agg #[.string T0, .int .u8 K, .bool f.b1, .slice f.a1 f.n1 f.c1, .bool f.b2, .slice f.a2 f.n2 f.c2, .bool f2.b1, .slice f2.a1 f2.n1 f2.c1, .bool f2.b2, .slice f2.a2 f2.n2 f2.c2, .int .i64 M]), .pred (VarAt wD.heap.size #[.string ⟨#[]⟩, .int .u8 0, .bool false, .slice none 0 0, .bool false, .slice none 0 0, .bool false, .slice none 0 0, .bool false, .slice none 0 0, .int .i64 0] 56)] (by kernel_rfl) (stable_vals _ (stable_vals _ (stable_vals _ (stable_vals _ (stable_vals _ (stable_vals _ (st_varK _ _ _ trivial)))))))
      iterate 2 (refine ⟨fun W hW _ => by go_simp; first | exact ⟨xR _, rfl⟩ | exact xR _, ?_⟩)
      refine ⟨fun W hW _ => by have := c0.out W hW; go_simp; first | exact ⟨xR _, rfl⟩ | exact xR _, ?_⟩
      refine ⟨?ld, ?_⟩
      case ld =>
       intro W hW hF
       have hr := hW.blk HE.out
       with_reducible refine fr_load ?zhw 54 (.tmp 11) ?zho w6.heap.size ?zhx 54 #[.int .u8 K, .bool f.b1, .slice f.a1 f.n1 f.c1, .bool f.b2, .slice f.a2 f.n2 f.c2, .bool f2.b1, .slice f2.a1 f2.n1 f2.c1, .bool f2.b2, .slice f2.a2 f2.n2 f2.c2] (0, 0) _ hr Tryz.underlying54 ?zhd ?zhi ?zh
       case zhw => kernel_rfl
       case zho => rfl
       case zhx => kernel_rfl
       case zhd => rfl
       case zhi => kernel_rfl
       case zh => exact ⟨xR _, rfl⟩
      iterate 2 (refine ⟨fun W hW _ => by go_simp; first | exact ⟨xR _, rfl⟩ | exact xR _, ?_⟩)
      refine ⟨fun W hW hF => ?al, fun v6 => fun W hW hF => ?fin⟩
      case al =>
       have hnv := new_var (b := wD.heap.size) (cs := #[.string ⟨#[]⟩, .int .u8 0, .bool false, .slice none 0 0, .bool false, .slice none 0 0, .bool false, .slice none 0 0, .bool false, .slice none 0 0, .int .i64 0]) (T := 56) W hW.size
       replace hnv := mK hnv
       go_simp
       exact ⟨hnv.out.1, hnv.out.2.1⟩
      case fin =>
       obtain ⟨gd, rfl, hgb, hgd⟩ := hF.1 rfl
       obtain ⟨w20, hw20⟩ : ∃ w20, w20 = W.setRow gd #[.string T0, .int .u8 K, .bool f.b1, .slice f.a1 f.n1 f.c1, .bool f.b2, .slice f.a2 f.n2 f.c2, .bool f2.b1, .slice f2.a1 f2.n1 f2.c1, .bool f2.b2, .slice f2.a2 f2.n2 f2.c2, .int .i64 M] := ⟨_, rfl⟩
       have x20 : Ext wD w20 := by rw [hw20]; exact hW.row hgb _
       have y20 := mK (show w20.heap[gd]? = some (.cells #[.string T0, .int .u8 K, .bool f.b1, .slice f.a1 f.n1 f.c1, .bool f.b2, .slice f.a2 f.n2 f.c2, .bool f2.b1, .slice f2.a1 f2.n1 f2.c1, .bool f2.b2, .slice f2.a2 f2.n2 f2.c2, .int .i64 M] 56 (0, 0)) by rw [hw20]; exact setRow_heap _ _ _ _ _ _ hgd)
       have hp20 := mK (HP.out.ext x20)
       have hq20 := mK (HQ.out.ext x20)
       have z20 := mK (x20.blk HZ.out)
       have E20 := mK (HEW.out.trans x20)
       replace hw20 := mK hw20
       replace hgd := mK hgd
       clear hF hW x20 hgb
       go_simp
       have tok : Tok 30 := .mk _
       go_wp2_with (first
        | (replace tok : Tok 31 := nxT 30 tok; refine wpList_store_row rfl 56 (.tmp 16) (.tmp 101) rfl gd #[.string T0, .int .u8 K, .bool f.b1, .slice f.a1 f.n1 f.c1, .bool f.b2, .slice f.a2 f.n2 f.c2, .bool f2.b1, .slice f2.a1 f2.n1 f2.c1, .bool f2.b2, .slice f2.a2 f2.n2 f2.c2, .int .i64 M] rfl rfl 56 _ hgd.out (by kernel_rfl) rfl (by kernel_rfl) ?_; rw [← hw20.out])
        | (replace tok : Tok 32 := nxT 31 tok; refine wpList_load_row (by rfl) 56 (.tmp 16) rfl gd rfl 56 #[.string T0, .int .u8 K, .bool f.b1, .slice f.a1 f.n1 f.c1, .bool f.b2, .slice f.a2 f.n2 f.c2, .bool f2.b1, .slice f2.a1 f2.n1 f2.c1, .bool f2.b2, .slice f2.a2 f2.n2 f2.c2, .int .i64 M] (0, 0) _ y20.out Tryz.underlying56 rfl (by kernel_rfl) ?_)
        | (replace tok : Tok 33 := nxT 32 tok; go_at_call 48; refine (KY.out w20 hp20.out hq20.out).mono ?_; rintro e w21 ⟨rfl, hx⟩; (have y21 := mK (hx.blk y20.out)); (have z21 := mK (hx.blk z20.out)); (have E21 := mK (E20.out.trans hx)); (have hp21 := mK (hp20.out.ext hx)); (have hq21 := mK (hq20.out.ext hx)); clear hx; refine stopS ?_))
       unfold StopS
       cases B with
       | true =>
        go_wp2_with (first
         | (replace tok : Tok 34 := nxT 33 tok; refine wpList_load_row (by rfl) 56 (.tmp 16) rfl gd rfl 56 #[.string T0, .int .u8 K, .bool f.b1, .slice f.a1 f.n1 f.c1, .bool f.b2, .slice f.a2 f.n2 f.c2, .bool f2.b1, .slice f2.a1 f2.n1 f2.c1, .bool f2.b2, .slice f2.a2 f2.n2 f2.c2, .int .i64 M] (0, 0) _ y21.out Tryz.underlying56 rfl (by kernel_rfl) ?_)
         | (replace tok : Tok 35 := nxT 34 tok; refine wpList_store_row rfl 56 (.tmp 2) (.tmp 106) rfl w.heap.size #[.string T0, .int .u8 K, .bool f.b1, .slice f.a1 f.n1 f.c1, .bool f.b2, .slice f.a2 f.n2 f.c2, .bool f2.b1, .slice f2.a1 f2.n1 f2.c1, .bool f2.b2, .slice f2.a2 f2.n2 f2.c2, .int .i64 M] rfl rfl 56 _ z21.out (by kernel_rfl) rfl (by kernel_rfl) ?_))
        exact bodyPost_ret (results_row_tmp rfl _ _ w.heap.size 56 #[.string T0, .int .u8 K, .bool f.b1, .slice f.a1 f.n1 f.c1, .bool f.b2, .slice f.a2 f.n2 f.c2, .bool f2.b1, .slice f2.a1 f2.n1 f2.c1, .bool f2.b2, .slice f2.a2 f2.n2 f2.c2, .int .i64 M] _ _ rfl rfl (setRow_heap _ _ _ _ _ _ z21.out) Tryz.underlying56 rfl (by kernel_rfl)) rfl (.inl ⟨⟨T0, K, p, q, M⟩, hRm.out.trans (by simp), f, f2, rfl, PartR.mk (d := ⟨T0, K, p, q, M⟩) (hp21.out.f32 z21.out (by simp [f32V]) _) (hq21.out.f32 z21.out (by simp [f32V]) _), E21.out.row (nR _) _⟩)
       | false =>
        go_wp2_with (refine wpList_store_row rfl 56 (.tmp 2) (.tmp 105) rfl w.heap.size #[.string ⟨#[]⟩, .int .u8 0, .bool false, .slice none 0 0, .bool false, .slice none 0 0, .bool false, .slice none 0 0, .bool false, .slice none 0 0, .int .i64 0] rfl rfl 56 _ z21.out (by kernel_rfl) rfl (by kernel_rfl) ?_)
        exact bodyPost_ret (results_row_tmp rfl _ _ w.heap.size 56 #[.string ⟨#[]⟩, .int .u8 0, .bool false, .slice none 0 0, .bool false, .slice none 0 0, .bool false, .slice none 0 0, .bool false, .slice none 0 0, .int .i64 0] _ _ rfl rfl (setRow_heap _ _ _ _ _ _ z21.out) Tryz.underlying56 rfl (by kernel_rfl)) rfl (.inr ⟨1, hRm.out.trans (by simp), rfl, E21.out.row (nR _) _⟩)
theorem rread_okS (s : ByteArray) (d : PD) (w : World) (hs : s.size ≤ 65536) (h : readL s.data.toList = .ok d) :
  Calls Tryz.prog 17 #[.string s] w fun e w' => ∃ f g : FV, e = .returned (.tuple #[.agg #[.string d.nm, .int .u8 d.kd, .bool f.b1, .slice f.a1 f.n1 f.c1, .bool f.b2, .slice f.a2 f.n2 f.c2, .bool g.b1, .slice g.a1 g.n1 g.c1, .bool g.b2, .slice g.a2 g.n2 g.c2, .int .i64 d.co], .int .i64 0]) ∧ PartR w' (.agg #[.string d.nm, .int .u8 d.kd, .bool f.b1, .slice f.a1 f.n1 f.c1, .bool f.b2, .slice f.a2 f.n2 f.c2, .bool g.b1, .slice g.a1 g.n1 g.c1, .bool g.b2, .slice g.a2 g.n2 g.c2, .int .i64 d.co]) d ∧ Ext w w' := by
 refine (rread_all s w hs).mono ?_
 rintro e w' (⟨d', h1, h2⟩ | ⟨c, h1, -⟩)
 ·rw [h] at h1
  cases h1
  exact h2
 ·rw [h] at h1; cases h1
theorem rread_badS (s : ByteArray) (c : Int) (w : World) (hs : s.size ≤ 65536) (h : readL s.data.toList = .error c) :
  Calls Tryz.prog 17 #[.string s] w (RLineE w c) := by
 refine (rread_all s w hs).mono ?_
 rintro e w' (⟨d', h1, -⟩ | ⟨c', h1, h2⟩)
 ·rw [h] at h1; cases h1
 ·rw [h] at h1
  cases h1
  exact h2
def RPQ (w : World) (R : Except (Nat × Int) (List PD)) (e : Ending) (w' : World) : Prop :=
 (∃ ds sl os, R = .ok ds ∧ e = .returned (.tuple #[.agg #[.bool false, sl], .int .i64 0, .int .i64 0]) ∧ RowL w' sl os ∧ os.map (·.1) = ds ∧ Ext w w') ∨
 (∃ (n : Nat) (c : Int), R = .error (n, c) ∧ e = .returned (.tuple #[.agg #[.bool true, .slice none 0 0], .int .i64 n, .int .i64 c]) ∧ Ext w w')
theorem results_row_tmp2 {P : Program} {fn : Func} {p q r : Tmp} {ty : TypeId} (h : fn.results = #[.cell p ty, .tmp q, .tmp r]) (tmps : Array Value) (w : World) (g : Nat) (t : TypeId) (cs : Array Value) (u v : Value) (d : TypeDesc)
  (hp : tmps.getD p undef = .pointer (some ⟨g, 0, none⟩)) (hq : tmps.getD q undef = u) (hr : tmps.getD r undef = v) (hg : w.heap[g]? = some (.cells cs t (0, 0)))
  (hu : P.underlying ty = some d) (hd : (match d with | .struct _ | .array _ _ => true | _ => false) = true) (hi : (P.info? ty).map (·.size) = some cs.size) :
  (results fn tmps).run P w = .ok (.tuple #[.agg cs, u, v]) w := by
 have hp' : tmps[p]?.getD undef = .pointer (some ⟨g, 0, none⟩) := by simpa using hp
 have hq' : tmps[q]?.getD undef = u := by simpa using hq
 have hr' : tmps[r]?.getD undef = v := by simpa using hr
 simp [results, h, hp', hq', hr', asAddr, run_loadVar_row w g t ty cs (0, 0) d hg hu hd hi]
def RPa (s : ByteArray) (w1 : World) (R : Except (Nat × Int) (List PD)) (t6 t7 t8 : Value) (wr : World) : Prop :=
 ∃ (i at' f : Nat) (os : List (PD × Value)), t8 = .int .i64 i ∧ t7 = .int .i64 at' ∧ at' ≤ i ∧ i ≤ s.size ∧ OutR w1.heap.size wr t6 os ∧ Ext w1 wr ∧ (10 : UInt8) ∉ (s.data.toList.drop at').take (i - at') ∧ s.size - at' < f ∧ os.length ≤ 64 ∧ parseL f (os.map (·.1)) (s.data.toList.drop at') = R
theorem OutR.shape {lo : Nat} {w : World} {s : Value} {os : List (PD × Value)} (h : OutR lo w s os) : ∃ a n c, s = .slice a n c ∧ os.length = n ∧ n ≤ c := by
 obtain ⟨a, c, h1, h2, -⟩ := h.rowL.at'
 exact ⟨a, _, c, h1, rfl, h2⟩
theorem last_get {os : List (PD × Value)} {m : Nat} (hm : os.length = m + 1) : lastN (os.map (·.1)) = nmL (os[m]'(by omega)).1 := by
 have h : (os.map (·.1)).getLast? = some (os[m]'(by omega)).1 := by
  rw [List.getLast?_map, List.getLast?_eq_getElem?]
  simp [hm]
 unfold lastN
 rw [h]
 rfl
theorem OutR.own {lo : Nat} {w : World} {s : Value} {os : List (PD × Value)} (h : OutR lo w s os) : ∀ g, s.ownBlock = some g → lo ≤ g := fun g hg => (ownsRow11 h.row g hg).1
theorem OutR.keep {lo : Nat} {w : World} {s : Value} {os : List (PD × Value)} {g T : Nat} {old : Array Value} (h : OutR lo w s os) (hg : w.heap[g]? = some (.cells old T (0, 0))) (hlt : g < lo) (ho : old.all f32V = true) (cs : Array Value) : OutR lo (w.setRow g cs) s os := by
 have hne : ∀ k, s.ownBlock = some k → (w.setRow g cs).heap[k]? = w.heap[k]? := fun k hk => setRow_other _ _ _ _ (by have := h.own k hk; omega)
 refine ⟨⟨h.row.1, ?_⟩, fun k hk => ?_, fun x hx => ?_⟩
 ·rcases h.row.2 with h2 | ⟨k, cap, cur, e2, h3, h4, r⟩
  ·exact .inl h2
  ·exact .inr ⟨k, cap, cur, e2, h3, (hne k (by rw [e2]; rfl)).trans h4, r⟩
 ·obtain ⟨cur, c1, c2⟩ := h.flat k hk
  exact ⟨cur, (hne k hk).trans c1, c2⟩
 ·obtain ⟨p, q, e, h1, h2⟩ := (h.part x hx).fv
  rw [e]
  exact PartR.mk (h1.f32 hg ho cs) (h2.f32 hg ho cs)
theorem OutR.last {lo : Nat} {w : World} {s : Value} {os : List (PD × Value)} {m : Nat} (h : OutR lo w s os) (hm : os.length = m + 1) :
  ∃ b o c, s = .slice (some ⟨b, o, none⟩) (m + 1) c ∧ m + 1 ≤ c ∧ ∃ L : ByteArray, L.data.toList = lastN (os.map (·.1)) ∧ w.cell? ⟨b, o + m * 11, none⟩ = some (.string L) := by
 obtain ⟨b, o, c, e, hc, p, q, -, hr, -⟩ := h.rowL.get (k := m) (by omega)
 rw [hm] at e hc
 exact ⟨b, o, c, e, hc, _, (last_get hm).symm, hr 0 _ rfl⟩
set_option maxHeartbeats 6400000 in
theorem rparse_c (s : ByteArray) (w : World) (hs : s.size ≤ 65536) :
  Calls Tryz.prog 7 #[.string s] w (RPQ w (parseT s.data.toList)) := by
 have hsl := list_size s
 obtain ⟨R, hR⟩ : ∃ R, R = parseT s.data.toList := ⟨_, rfl⟩
 have z0 := mK (show ((w.alloc (.cells #[.bool false, .slice none 0 0] 29)).alloc (.cells #[.bool false, .slice none 0 0] 29)).heap[w.heap.size + 1]? = some (.cells #[.bool false, .slice none 0 0] 29 (0, 0)) from heap_at _ _ _ (by simp))
 obtain ⟨w1, hw1⟩ : ∃ w1, w1 = ((w.alloc (.cells #[.bool false, .slice none 0 0] 29)).alloc (.cells #[.bool false, .slice none 0 0] 29)).setRow (w.heap.size + 1) #[.bool true, .slice none 0 0] := ⟨_, rfl⟩
 have E1 := mK (show Ext w w1 by rw [hw1]; exact (((xR w).al _).al _).row (by omega) _)
 have zR := mK (show w1.heap[w.heap.size]? = some (.cells #[.bool false, .slice none 0 0] 29 (0, 0)) by rw [hw1, setRow_other _ _ _ _ (by omega)]; exact (heap_alloc_old _ _ (by simp)).trans (heap_alloc_new _ _))
 have zN := mK (show w1.heap[w.heap.size + 1]? = some (.cells #[.bool true, .slice none 0 0] 29 (0, 0)) by rw [hw1]; exact setRow_heap _ _ _ _ _ _ z0.out)
 have hlo := mK (show w.heap.size + 2 ≤ w1.heap.size by rw [hw1]; simp)
 have st : RPa s w1 R (.slice none 0 0) (.int .i64 0) (.int .i64 0) w1 := ⟨0, 0, s.data.toList.length + 1, [], rfl, rfl, nR _, Nat.zero_le _, outR_nil _ _, xR _, by simp, by omega, Nat.zero_le _, by rw [hR]; rfl⟩
 rw [← hR]
 replace st := mK st
 replace hw1 := mK hw1
 have hs' : ¬ (65536 : Int) < (s.size : Int) := by omega
 clear hR
 go_enter Tryz.func7, Tryz.ntmps7
 go_wp2_with (refine wpList_store_row rfl 29 (.tmp 5) (.tmp 11) rfl (w.heap.size + 1) #[.bool true, .slice none 0 0] rfl rfl 29 _ z0.out (by kernel_rfl) rfl (by kernel_rfl) ?_; rw [← hw1.out])
 clear z0 hw1 hs'
 go_loopw [6, 7, 8] (fun t6 t7 t8 wr => RPa s w1 R t6 t7 t8 wr) (fun _ _ t8 _ => s.size - (intOf t8).toNat)
 case atStart => exact st.out
 case round =>
  clear st
  obtain ⟨i, at', f, os, rfl, rfl, hat, his, hO, hE, hno, hf, hfew, hR⟩ := hrel
  obtain ⟨w2, rfl⟩ : ∃ w2 : World, w2 = wr := ⟨_, rfl⟩
  obtain ⟨sa, n, sc, rfl, hn, hsc⟩ := hO.shape
  have hfew' : n ≤ 64 := by omega
  by_cases hlt : i < s.size
  ·have hltI : (i : Int) < s.size := by omega
   have hbk := byte_at (D := s) rfl hlt (by omega)
   by_cases h10 : s[i] = 10
   ·have hb1 : (s[i].toNat != 10) = false := by rw [h10]; rfl
    have hb2 : ((s[i].toNat : Int) != 10) = false := by rw [h10]; rfl
    obtain ⟨XB, hXB⟩ : ∃ XB, XB = s.extract at' i := ⟨_, rfl⟩
    have hX := hXB.symm
    have hXt : XB.data.toList = (s.data.toList.drop at').take (i - at') := by rw [hXB, ext_mid]
    have hXs : XB.size ≤ 65536 := by rw [hXB, ByteArray.size_extract]; omega
    have hd := drop_hit (l := s.data.toList) hat (by omega)
    rw [hbk, h10, ← hXt] at hd
    rw [← hXt] at hno
    have hcut := cutL_hit (y := s.data.toList.drop (i + 1)) hno
    rw [← hd] at hcut
    obtain ⟨f, rfl⟩ : ∃ f', f = f' + 1 := ⟨f - 1, by omega⟩
    have hne : s.data.toList.drop at' ≠ [] := by rw [hd]; simp
    rw [parseL, if_neg hne, hcut] at hR
    simp only at hR
    clear hd hcut hne h10 hbk hno hXt hXB
    have hatI : (at' : Int) ≤ i := by omega
    cases hrd : readL XB.data.toList with
    | error c =>
     rw [hrd] at hR
     simp only [List.length_map] at hR
     have KR := mK (fun W => rread_badS XB c W hXs hrd)
     have hc0 : (c != 0) = true := by have := readL_code hrd; rw [bne_iff_ne]; omega
     replace hO := mK hO
     replace hE := mK hE
     replace hR := mK hR
     clear hrd hXs
     have tok : Tok 0 := .mk _
     go_wp2_with (first
      | (replace tok : Tok 1 := nxT 0 tok; go_at_call 17; refine (KR.out w2).mono ?_; rintro e w3 ⟨rfl, hx⟩; (obtain ⟨w4, hw4⟩ : ∃ w4, w4 = (w3.alloc (.cells #[.string ⟨#[]⟩, .int .u8 0, .bool false, .slice none 0 0, .bool false, .slice none 0 0, .bool false, .slice none 0 0, .bool false, .slice none 0 0, .int .i64 0] 56)).setRow w3.heap.size #[.string ⟨#[]⟩, .int .u8 0, .bool false, .slice none 0 0, .bool false, .slice none 0 0, .bool false, .slice none 0 0, .bool false, .slice none 0 0, .int .i64 0] := ⟨_, rfl⟩); (have zn := heap_alloc_new w3 (.cells #[.string ⟨#[]⟩, .int .u8 0, .bool false, .slice none 0 0, .bool false, .slice none 0 0, .bool false, .slice none 0 0, .bool false, .slice none 0 0, .int .i64 0] 56)); (have x4 : Ext w1 w4 := by rw [hw4]; exact ((hE.out.trans hx).al _).row ((hE.out.trans hx).size) _); (have zR4 := mK (x4.blk zR.out)); (have zN4 := mK (x4.blk zN.out)); (have E4 := mK (E1.out.trans x4)); replace hw4 := mK hw4; replace zn := mK zn; clear hx x4)
      | (replace tok : Tok 2 := nxT 1 tok; refine wpList_store_row rfl 56 (.tmp 9) (.tmp 32) rfl w3.heap.size #[.string ⟨#[]⟩, .int .u8 0, .bool false, .slice none 0 0, .bool false, .slice none 0 0, .bool false, .slice none 0 0, .bool false, .slice none 0 0, .int .i64 0] rfl rfl 56 _ zn.out (by kernel_rfl) rfl (by kernel_rfl) ?_; rw [← hw4.out])
      | (replace tok : Tok 3 := nxT 2 tok; refine wpList_load_row (by rfl) 29 (.tmp 5) rfl (w.heap.size + 1) rfl 29 #[.bool true, .slice none 0 0] (0, 0) _ zN4.out Tryz.underlying29 rfl (by kernel_rfl) ?_)
      | (replace tok : Tok 4 := nxT 3 tok; refine wpList_store_row rfl 29 (.tmp 2) (.tmp 36) rfl w.heap.size #[.bool true, .slice none 0 0] rfl rfl 29 _ zR4.out (by kernel_rfl) rfl (by kernel_rfl) ?_))
     refine bodyPost_ret (results_row_tmp2 rfl _ _ w.heap.size 29 #[.bool true, .slice none 0 0] _ _ _ rfl rfl rfl (setRow_heap _ _ _ _ _ _ zR4.out) Tryz.underlying29 rfl (by kernel_rfl)) rfl ?_
     exact .inr ⟨n, c, by rw [← hn]; exact hR.out.symm, rfl, E4.out.row (nR _) _⟩
    | ok d =>
     rw [hrd] at hR
     simp only [List.length_map] at hR
     obtain ⟨hdok, -⟩ := readL_back hrd
     have hnd := hdok.2.2.1
     have KR := mK (fun W => rread_okS XB d W hXs hrd)
     replace hE := mK hE
     clear hrd hXs hdok
     cases n with
     | zero =>
      obtain rfl : os = [] := List.eq_nil_of_length_eq_zero hn
      replace hO := mK hO
      have hb0 : bytesBefore (lastN (([] : List (PD × Value)).map (·.1))) (nmL d) = true := name_pos hnd
      rw [hb0, if_pos rfl, if_pos (by decide)] at hR
      replace hR := mK hR
      replace hn := mK hn
      clear hb0 hnd
      have tok : Tok 10 := .mk _
      go_wp2_with (first
       | (replace tok : Tok 11 := nxT 10 tok; go_at_call 17; refine (KR.out w2).mono ?_; rintro e w3 ⟨p, q, rfl, hv, hx⟩; (obtain ⟨w4, hw4⟩ : ∃ w4, w4 = (w3.alloc (.cells #[.string ⟨#[]⟩, .int .u8 0, .bool false, .slice none 0 0, .bool false, .slice none 0 0, .bool false, .slice none 0 0, .bool false, .slice none 0 0, .int .i64 0] 56)).setRow w3.heap.size #[.string d.nm, .int .u8 d.kd, .bool p.b1, .slice p.a1 p.n1 p.c1, .bool p.b2, .slice p.a2 p.n2 p.c2, .bool q.b1, .slice q.a1 q.n1 q.c1, .bool q.b2, .slice q.a2 q.n2 q.c2, .int .i64 d.co] := ⟨_, rfl⟩); (have zn := heap_alloc_new w3 (.cells #[.string ⟨#[]⟩, .int .u8 0, .bool false, .slice none 0 0, .bool false, .slice none 0 0, .bool false, .slice none 0 0, .bool false, .slice none 0 0, .int .i64 0] 56)); (have y4 : Ext w3 w4 := by rw [hw4]; exact ((xR w3).al _).row (nR _) _); (have zP4 := mK (show w4.heap[w3.heap.size]? = some (.cells #[.string d.nm, .int .u8 d.kd, .bool p.b1, .slice p.a1 p.n1 p.c1, .bool p.b2, .slice p.a2 p.n2 p.c2, .bool q.b1, .slice q.a1 q.n1 q.c1, .bool q.b2, .slice q.a2 q.n2 q.c2, .int .i64 d.co] 56 (0, 0)) by rw [hw4]; exact setRow_heap _ _ _ _ _ _ zn)); (have hv4 := mK (hv.ext y4)); (have hO4 := mK (hO.out.ext (hx.trans y4))); (have E4 := mK (hE.out.trans (hx.trans y4))); (have hx24 := mK (hx.trans y4)); replace hw4 := mK hw4; replace zn := mK zn; clear hx y4 hv hO hE)
       | (replace tok : Tok 12 := nxT 11 tok; refine wpList_store_row rfl 56 (.tmp 9) (.tmp 32) rfl w3.heap.size #[.string d.nm, .int .u8 d.kd, .bool p.b1, .slice p.a1 p.n1 p.c1, .bool p.b2, .slice p.a2 p.n2 p.c2, .bool q.b1, .slice q.a1 q.n1 q.c1, .bool q.b2, .slice q.a2 q.n2 q.c2, .int .i64 d.co] rfl rfl 56 _ zn.out (by kernel_rfl) rfl (by kernel_rfl) ?_; rw [← hw4.out]))
      clear tok zn hw4 KR
      apply region_ext [.val (.slice sa 0 sc), .val (.int .i64 0), .val (.bool false), .val (.bool false), .val undef, .val undef, .val undef, .val undef, .val undef, .val undef, .val undef, .val undef, .val undef, .val undef, .val (.bool false)] (by kernel_rfl)
      case hst =>
       iterate 15 (refine stable_vals _ ?_)
       trivial
      iterate 4 (refine ⟨fun W hW _ => by go_simp; first | exact ⟨xR _, rfl⟩ | exact xR _, ?_⟩)
      iterate 10 (refine ⟨fun W hW _ => by go_simp, ?_⟩)
      refine ⟨fun W hW _ => by go_simp; first | exact ⟨xR _, rfl⟩ | exact xR _, ?_⟩
      intro W hW _
      have EW := mK (E4.out.trans hW)
      clear E4
      go_simp
      have tok : Tok 30 := .mk _
      have zPW := mK (hW.blk zP4.out)
      have hvW := mK (hv4.out.ext hW)
      have hOW := mK (hO4.out.ext hW)
      clear hW zP4 hv4 hO4
      go_wp2_with (first
       | (replace tok : Tok 31 := nxT 30 tok; refine wpList_load_row (by rfl) 56 (.tmp 9) rfl w3.heap.size rfl 56 #[.string d.nm, .int .u8 d.kd, .bool p.b1, .slice p.a1 p.n1 p.c1, .bool p.b2, .slice p.a2 p.n2 p.c2, .bool q.b1, .slice q.a1 q.n1 q.c1, .bool q.b2, .slice q.a2 q.n2 q.c2, .int .i64 d.co] (0, 0) _ zPW.out Tryz.underlying56 rfl (by kernel_rfl) ?_)
       | (replace tok : Tok 32 := nxT 31 tok; at_builtin; (have hx7 := (xR W).al (.cells #[.string d.nm, .int .u8 d.kd, .bool p.b1, .slice p.a1 p.n1 p.c1, .bool p.b2, .slice p.a2 p.n2 p.c2, .bool q.b1, .slice q.a1 q.n1 q.c1, .bool q.b2, .slice q.a2 q.n2 q.c2, .int .i64 d.co] 56)); (have X := hOW.out.ext hx7); (have XR := X.row); rw [hn.out] at XR; refine wpList_append_flat rfl (.tmp 64) (.tmp 66) ?yaa w1.heap.size (.slice (sa) (0) sc) (0) (cellsP (([] : List (PD × Value)))) ?yab XR X.cflat X.flat ⟨W.heap.size, 0, none⟩ 1 [.string d.nm, .int .u8 d.kd, .bool p.b1, .slice p.a1 p.n1 p.c1, .bool p.b2, .slice p.a2 p.n2 p.c2, .bool q.b1, .slice q.a1 q.n1 q.c1, .bool q.b2, .slice q.a2 q.n2 q.c2, .int .i64 d.co] ?yac rfl (news_cells W _ _) (part_one d p q) (part_flat d p q rfl) ?yad ?yae ?_; (case yaa => rfl); (case yab => rfl); (case yac => rfl); (case yad => omega); (case yae => exact nT EW.out.size hx7.size); intro v7 w7 hown7 hgrow7 hflat7; rw [← hn.out] at hown7; (have hO7 := mK (X.snoc (hvW.out.ext hx7) hown7 hgrow7 hflat7)); (have E7 := mK ((EW.out.trans hx7).gr hgrow7 (fun k e => (ownsRow11 X.row k e).1))); clear hx7 X XR hown7 hgrow7 hflat7))
      have hR7 : parseL f (((([] : List (PD × Value))) ++ [(d, Value.agg #[.string d.nm, .int .u8 d.kd, .bool p.b1, .slice p.a1 p.n1 p.c1, .bool p.b2, .slice p.a2 p.n2 p.c2, .bool q.b1, .slice q.a1 q.n1 q.c1, .bool q.b2, .slice q.a2 q.n2 q.c2, .int .i64 d.co])]).map (·.1)) (s.data.toList.drop (i + 1)) = R := by rw [List.map_append]; exact hR.out
      have hl7 : ((([] : List (PD × Value))) ++ [(d, Value.agg #[.string d.nm, .int .u8 d.kd, .bool p.b1, .slice p.a1 p.n1 p.c1, .bool p.b2, .slice p.a2 p.n2 p.c2, .bool q.b1, .slice q.a1 q.n1 q.c1, .bool q.b2, .slice q.a2 q.n2 q.c2, .int .i64 d.co])]).length ≤ 64 := by rw [List.length_append, hn.out, List.length_singleton]; omega
      first
       | exact ⟨⟨i + 1, i + 1, f, _, by go_num, by go_num, nR _, by omega, hO7.out, E7.out, by simp, by omega, hl7, hR7⟩, by simp [intOf] <;> omega⟩
       | ((go_roundw); case measure => (simp [intOf]; omega); case rel => (exact ⟨i + 1, i + 1, f, _, by go_num, by go_num, nR _, by omega, hO7.out, E7.out, by simp, by omega, hl7, hR7⟩))
     | succ m =>
      obtain ⟨b, o, c', e1, -, L, hL, hcl⟩ := hO.last hn
      have C1' := mK (fun W (e : Ext w2 W) => e.cell hcl)
      simp only [Value.slice.injEq] at e1
      obtain ⟨rfl, -, rfl⟩ := e1
      rw [← hL] at hR
      replace hO := mK hO
      clear hL hcl
      have hmI : (0 : Int) < (m : Int) + 1 := by omega
      have hmm : (m : Int) < (m : Int) + 1 := by omega
      have hwm : IntKind.i64.wrap (m : Int) = m := by rw [IntKind.wrap_i64]; omega
      cases hbf : bytesBefore L.data.toList (nmL d) with
      | true =>
       obtain ⟨n1, n2, n3, n4⟩ := name_cmp (a := L) (b := d.nm) hbf
       by_cases h64 : m + 1 < 64
       ·rw [hbf, if_pos rfl, hn, if_pos h64] at hR
        replace hR := mK hR
        replace hn := mK hn
        have hk64 : ¬ (64 : Int) ≤ (m : Int) + 1 := by omega
        clear hbf hnd
        have tok : Tok 10 := .mk _
        go_wp2_with (first
         | (replace tok : Tok 11 := nxT 10 tok; go_at_call 17; refine (KR.out w2).mono ?_; rintro e w3 ⟨p, q, rfl, hv, hx⟩; (obtain ⟨w4, hw4⟩ : ∃ w4, w4 = (w3.alloc (.cells #[.string ⟨#[]⟩, .int .u8 0, .bool false, .slice none 0 0, .bool false, .slice none 0 0, .bool false, .slice none 0 0, .bool false, .slice none 0 0, .int .i64 0] 56)).setRow w3.heap.size #[.string d.nm, .int .u8 d.kd, .bool p.b1, .slice p.a1 p.n1 p.c1, .bool p.b2, .slice p.a2 p.n2 p.c2, .bool q.b1, .slice q.a1 q.n1 q.c1, .bool q.b2, .slice q.a2 q.n2 q.c2, .int .i64 d.co] := ⟨_, rfl⟩); (have zn := heap_alloc_new w3 (.cells #[.string ⟨#[]⟩, .int .u8 0, .bool false, .slice none 0 0, .bool false, .slice none 0 0, .bool false, .slice none 0 0, .bool false, .slice none 0 0, .int .i64 0] 56)); (have y4 : Ext w3 w4 := by rw [hw4]; exact ((xR w3).al _).row (nR _) _); (have zP4 := mK (show w4.heap[w3.heap.size]? = some (.cells #[.string d.nm, .int .u8 d.kd, .bool p.b1, .slice p.a1 p.n1 p.c1, .bool p.b2, .slice p.a2 p.n2 p.c2, .bool q.b1, .slice q.a1 q.n1 q.c1, .bool q.b2, .slice q.a2 q.n2 q.c2, .int .i64 d.co] 56 (0, 0)) by rw [hw4]; exact setRow_heap _ _ _ _ _ _ zn)); (have hv4 := mK (hv.ext y4)); (have hO4 := mK (hO.out.ext (hx.trans y4))); (have E4 := mK (hE.out.trans (hx.trans y4))); (have hx24 := mK (hx.trans y4)); replace hw4 := mK hw4; replace zn := mK zn; clear hx y4 hv hO hE)
         | (replace tok : Tok 12 := nxT 11 tok; refine wpList_store_row rfl 56 (.tmp 9) (.tmp 32) rfl w3.heap.size #[.string d.nm, .int .u8 d.kd, .bool p.b1, .slice p.a1 p.n1 p.c1, .bool p.b2, .slice p.a2 p.n2 p.c2, .bool q.b1, .slice q.a1 q.n1 q.c1, .bool q.b2, .slice q.a2 q.n2 q.c2, .int .i64 d.co] rfl rfl 56 _ zn.out (by kernel_rfl) rfl (by kernel_rfl) ?_; rw [← hw4.out]))
        clear tok zn hw4 KR
        have C0 := mK (fun W (e : Ext w4 W) => row16_cells (e.blk zP4.out) 0)
        have C0 : Hid (∀ W, Ext w4 W → W.cell? ⟨w3.heap.size, 0, none⟩ = some (.string d.nm)) := C0
        have C1 := mK (fun W (e : Ext w4 W) => C1'.out W (hx24.out.trans e))
        apply region_ext [.val (.slice (some ⟨b, o, none⟩) (m + 1) sc), .val (.int .i64 ((m : Int) + 1)), .val (.bool true), .val (.bool true), .val (.pointer (some ⟨w3.heap.size, 0, none⟩)), .val (.string d.nm), .val (.slice (some ⟨b, o, none⟩) (m + 1) sc), .val (.slice (some ⟨b, o, none⟩) (m + 1) sc), .val (.int .i64 ((m : Int) + 1)), .val (.int .i64 (m : Int)), .val (.pointer (some ⟨b, o + m * 11, none⟩)), .val (.pointer (some ⟨b, o + m * 11, none⟩)), .val (.string L), .val (.bool false), .val (.bool false)] (by kernel_rfl)
        case hst =>
         iterate 15 (refine stable_vals _ ?_)
         trivial
        iterate 5 (refine ⟨fun W hW _ => by go_simp; first | exact ⟨xR _, rfl⟩ | exact xR _, ?_⟩)
        refine ⟨fun W hW _ => by have := C0.out W hW; go_simp; first | exact ⟨xR _, rfl⟩ | exact xR _, ?_⟩
        iterate 6 (refine ⟨fun W hW _ => by go_simp; first | exact ⟨xR _, rfl⟩ | exact xR _, ?_⟩)
        refine ⟨fun W hW _ => by have := C1.out W hW; go_simp; first | exact ⟨xR _, rfl⟩ | exact xR _, ?_⟩
        iterate 2 (refine ⟨fun W hW _ => by go_simp; first | exact ⟨xR _, rfl⟩ | exact xR _, ?_⟩)
        intro W hW _
        have EW := mK (E4.out.trans hW)
        clear C0 C1 E4
        go_simp
        have tok : Tok 30 := .mk _
        have zPW := mK (hW.blk zP4.out)
        have hvW := mK (hv4.out.ext hW)
        have hOW := mK (hO4.out.ext hW)
        clear hW zP4 hv4 hO4
        go_wp2_with (first
         | (replace tok : Tok 31 := nxT 30 tok; refine wpList_load_row (by rfl) 56 (.tmp 9) rfl w3.heap.size rfl 56 #[.string d.nm, .int .u8 d.kd, .bool p.b1, .slice p.a1 p.n1 p.c1, .bool p.b2, .slice p.a2 p.n2 p.c2, .bool q.b1, .slice q.a1 q.n1 q.c1, .bool q.b2, .slice q.a2 q.n2 q.c2, .int .i64 d.co] (0, 0) _ zPW.out Tryz.underlying56 rfl (by kernel_rfl) ?_)
         | (replace tok : Tok 32 := nxT 31 tok; at_builtin; (have hx7 := (xR W).al (.cells #[.string d.nm, .int .u8 d.kd, .bool p.b1, .slice p.a1 p.n1 p.c1, .bool p.b2, .slice p.a2 p.n2 p.c2, .bool q.b1, .slice q.a1 q.n1 q.c1, .bool q.b2, .slice q.a2 q.n2 q.c2, .int .i64 d.co] 56)); (have X := hOW.out.ext hx7); (have XR := X.row); rw [hn.out] at XR; refine wpList_append_flat rfl (.tmp 64) (.tmp 66) ?yba w1.heap.size (.slice (some ⟨b, o, none⟩) (m + 1) sc) (m + 1) (cellsP (os)) ?ybb XR X.cflat X.flat ⟨W.heap.size, 0, none⟩ 1 [.string d.nm, .int .u8 d.kd, .bool p.b1, .slice p.a1 p.n1 p.c1, .bool p.b2, .slice p.a2 p.n2 p.c2, .bool q.b1, .slice q.a1 q.n1 q.c1, .bool q.b2, .slice q.a2 q.n2 q.c2, .int .i64 d.co] ?ybc rfl (news_cells W _ _) (part_one d p q) (part_flat d p q rfl) ?ybd ?ybe ?_; (case yba => rfl); (case ybb => rfl); (case ybc => rfl); (case ybd => omega); (case ybe => exact nT EW.out.size hx7.size); intro v7 w7 hown7 hgrow7 hflat7; rw [← hn.out] at hown7; (have hO7 := mK (X.snoc (hvW.out.ext hx7) hown7 hgrow7 hflat7)); (have E7 := mK ((EW.out.trans hx7).gr hgrow7 (fun k e => (ownsRow11 X.row k e).1))); clear hx7 X XR hown7 hgrow7 hflat7))
        have hR7 : parseL f (((os) ++ [(d, Value.agg #[.string d.nm, .int .u8 d.kd, .bool p.b1, .slice p.a1 p.n1 p.c1, .bool p.b2, .slice p.a2 p.n2 p.c2, .bool q.b1, .slice q.a1 q.n1 q.c1, .bool q.b2, .slice q.a2 q.n2 q.c2, .int .i64 d.co])]).map (·.1)) (s.data.toList.drop (i + 1)) = R := by rw [List.map_append]; exact hR.out
        have hl7 : ((os) ++ [(d, Value.agg #[.string d.nm, .int .u8 d.kd, .bool p.b1, .slice p.a1 p.n1 p.c1, .bool p.b2, .slice p.a2 p.n2 p.c2, .bool q.b1, .slice q.a1 q.n1 q.c1, .bool q.b2, .slice q.a2 q.n2 q.c2, .int .i64 d.co])]).length ≤ 64 := by rw [List.length_append, hn.out, List.length_singleton]; omega
        first
         | exact ⟨⟨i + 1, i + 1, f, _, by go_num, by go_num, nR _, by omega, hO7.out, E7.out, by simp, by omega, hl7, hR7⟩, by simp [intOf] <;> omega⟩
         | ((go_roundw); case measure => (simp [intOf]; omega); case rel => (exact ⟨i + 1, i + 1, f, _, by go_num, by go_num, nR _, by omega, hO7.out, E7.out, by simp, by omega, hl7, hR7⟩))
       ·rw [hbf, if_pos rfl, hn, if_neg h64] at hR
        replace hR := mK hR
        replace hn := mK hn
        have hk64 : (64 : Int) ≤ (m : Int) + 1 := by omega
        clear hbf hnd
        have tok : Tok 10 := .mk _
        go_wp2_with (first
         | (replace tok : Tok 11 := nxT 10 tok; go_at_call 17; refine (KR.out w2).mono ?_; rintro e w3 ⟨p, q, rfl, hv, hx⟩; (obtain ⟨w4, hw4⟩ : ∃ w4, w4 = (w3.alloc (.cells #[.string ⟨#[]⟩, .int .u8 0, .bool false, .slice none 0 0, .bool false, .slice none 0 0, .bool false, .slice none 0 0, .bool false, .slice none 0 0, .int .i64 0] 56)).setRow w3.heap.size #[.string d.nm, .int .u8 d.kd, .bool p.b1, .slice p.a1 p.n1 p.c1, .bool p.b2, .slice p.a2 p.n2 p.c2, .bool q.b1, .slice q.a1 q.n1 q.c1, .bool q.b2, .slice q.a2 q.n2 q.c2, .int .i64 d.co] := ⟨_, rfl⟩); (have zn := heap_alloc_new w3 (.cells #[.string ⟨#[]⟩, .int .u8 0, .bool false, .slice none 0 0, .bool false, .slice none 0 0, .bool false, .slice none 0 0, .bool false, .slice none 0 0, .int .i64 0] 56)); (have y4 : Ext w3 w4 := by rw [hw4]; exact ((xR w3).al _).row (nR _) _); (have zP4 := mK (show w4.heap[w3.heap.size]? = some (.cells #[.string d.nm, .int .u8 d.kd, .bool p.b1, .slice p.a1 p.n1 p.c1, .bool p.b2, .slice p.a2 p.n2 p.c2, .bool q.b1, .slice q.a1 q.n1 q.c1, .bool q.b2, .slice q.a2 q.n2 q.c2, .int .i64 d.co] 56 (0, 0)) by rw [hw4]; exact setRow_heap _ _ _ _ _ _ zn)); (have hv4 := mK (hv.ext y4)); (have hO4 := mK (hO.out.ext (hx.trans y4))); (have E4 := mK (hE.out.trans (hx.trans y4))); (have hx24 := mK (hx.trans y4)); replace hw4 := mK hw4; replace zn := mK zn; clear hx y4 hv hO hE)
         | (replace tok : Tok 12 := nxT 11 tok; refine wpList_store_row rfl 56 (.tmp 9) (.tmp 32) rfl w3.heap.size #[.string d.nm, .int .u8 d.kd, .bool p.b1, .slice p.a1 p.n1 p.c1, .bool p.b2, .slice p.a2 p.n2 p.c2, .bool q.b1, .slice q.a1 q.n1 q.c1, .bool q.b2, .slice q.a2 q.n2 q.c2, .int .i64 d.co] rfl rfl 56 _ zn.out (by kernel_rfl) rfl (by kernel_rfl) ?_; rw [← hw4.out]))
        clear tok zn hw4 KR
        have C0 := mK (fun W (e : Ext w4 W) => row16_cells (e.blk zP4.out) 0)
        have C0 : Hid (∀ W, Ext w4 W → W.cell? ⟨w3.heap.size, 0, none⟩ = some (.string d.nm)) := C0
        have C1 := mK (fun W (e : Ext w4 W) => C1'.out W (hx24.out.trans e))
        apply region_ext [.val (.slice (some ⟨b, o, none⟩) (m + 1) sc), .val (.int .i64 ((m : Int) + 1)), .val (.bool true), .val (.bool true), .val (.pointer (some ⟨w3.heap.size, 0, none⟩)), .val (.string d.nm), .val (.slice (some ⟨b, o, none⟩) (m + 1) sc), .val (.slice (some ⟨b, o, none⟩) (m + 1) sc), .val (.int .i64 ((m : Int) + 1)), .val (.int .i64 (m : Int)), .val (.pointer (some ⟨b, o + m * 11, none⟩)), .val (.pointer (some ⟨b, o + m * 11, none⟩)), .val (.string L), .val (.bool false), .val (.bool false)] (by kernel_rfl)
        case hst =>
         iterate 15 (refine stable_vals _ ?_)
         trivial
        iterate 5 (refine ⟨fun W hW _ => by go_simp; first | exact ⟨xR _, rfl⟩ | exact xR _, ?_⟩)
        refine ⟨fun W hW _ => by have := C0.out W hW; go_simp; first | exact ⟨xR _, rfl⟩ | exact xR _, ?_⟩
        iterate 6 (refine ⟨fun W hW _ => by go_simp; first | exact ⟨xR _, rfl⟩ | exact xR _, ?_⟩)
        refine ⟨fun W hW _ => by have := C1.out W hW; go_simp; first | exact ⟨xR _, rfl⟩ | exact xR _, ?_⟩
        iterate 2 (refine ⟨fun W hW _ => by go_simp; first | exact ⟨xR _, rfl⟩ | exact xR _, ?_⟩)
        intro W hW _
        have EW := mK (E4.out.trans hW)
        clear C0 C1 E4
        go_simp
        (have tok : Tok 20 := .mk _)
        (have zRW := mK (EW.out.blk zR.out))
        (have zNW := mK (EW.out.blk zN.out))
        go_wp2_with (first
         | (replace tok : Tok 21 := nxT 20 tok; refine wpList_load_row (by rfl) 29 (.tmp 5) rfl (w.heap.size + 1) rfl 29 #[.bool true, .slice none 0 0] (0, 0) _ zNW.out Tryz.underlying29 rfl (by kernel_rfl) ?_)
         | (replace tok : Tok 22 := nxT 21 tok; refine wpList_store_row rfl 29 (.tmp 2) (.tmp 61) rfl w.heap.size #[.bool true, .slice none 0 0] rfl rfl 29 _ zRW.out (by kernel_rfl) rfl (by kernel_rfl) ?_))
        refine bodyPost_ret (results_row_tmp2 rfl _ _ w.heap.size 29 #[.bool true, .slice none 0 0] _ _ _ rfl rfl rfl (setRow_heap _ _ _ _ _ _ zRW.out) Tryz.underlying29 rfl (by kernel_rfl)) rfl ?_
        exact .inr ⟨m + 1, 12, hR.out.symm, rfl, (E1.out.trans EW.out).row (nR _) _⟩
      | false =>
       rw [hbf, if_neg (by simp), hn] at hR
       replace hR := mK hR
       replace hn := mK hn
       rcases bef_total _ _ hbf with h | h
       ·obtain ⟨n1, n2, n3, n4⟩ := name_cmp (a := d.nm) (b := L) h
        clear hbf hnd h
        have tok : Tok 10 := .mk _
        go_wp2_with (first
         | (replace tok : Tok 11 := nxT 10 tok; go_at_call 17; refine (KR.out w2).mono ?_; rintro e w3 ⟨p, q, rfl, hv, hx⟩; (obtain ⟨w4, hw4⟩ : ∃ w4, w4 = (w3.alloc (.cells #[.string ⟨#[]⟩, .int .u8 0, .bool false, .slice none 0 0, .bool false, .slice none 0 0, .bool false, .slice none 0 0, .bool false, .slice none 0 0, .int .i64 0] 56)).setRow w3.heap.size #[.string d.nm, .int .u8 d.kd, .bool p.b1, .slice p.a1 p.n1 p.c1, .bool p.b2, .slice p.a2 p.n2 p.c2, .bool q.b1, .slice q.a1 q.n1 q.c1, .bool q.b2, .slice q.a2 q.n2 q.c2, .int .i64 d.co] := ⟨_, rfl⟩); (have zn := heap_alloc_new w3 (.cells #[.string ⟨#[]⟩, .int .u8 0, .bool false, .slice none 0 0, .bool false, .slice none 0 0, .bool false, .slice none 0 0, .bool false, .slice none 0 0, .int .i64 0] 56)); (have y4 : Ext w3 w4 := by rw [hw4]; exact ((xR w3).al _).row (nR _) _); (have zP4 := mK (show w4.heap[w3.heap.size]? = some (.cells #[.string d.nm, .int .u8 d.kd, .bool p.b1, .slice p.a1 p.n1 p.c1, .bool p.b2, .slice p.a2 p.n2 p.c2, .bool q.b1, .slice q.a1 q.n1 q.c1, .bool q.b2, .slice q.a2 q.n2 q.c2, .int .i64 d.co] 56 (0, 0)) by rw [hw4]; exact setRow_heap _ _ _ _ _ _ zn)); (have hv4 := mK (hv.ext y4)); (have hO4 := mK (hO.out.ext (hx.trans y4))); (have E4 := mK (hE.out.trans (hx.trans y4))); (have hx24 := mK (hx.trans y4)); replace hw4 := mK hw4; replace zn := mK zn; clear hx y4 hv hO hE)
         | (replace tok : Tok 12 := nxT 11 tok; refine wpList_store_row rfl 56 (.tmp 9) (.tmp 32) rfl w3.heap.size #[.string d.nm, .int .u8 d.kd, .bool p.b1, .slice p.a1 p.n1 p.c1, .bool p.b2, .slice p.a2 p.n2 p.c2, .bool q.b1, .slice q.a1 q.n1 q.c1, .bool q.b2, .slice q.a2 q.n2 q.c2, .int .i64 d.co] rfl rfl 56 _ zn.out (by kernel_rfl) rfl (by kernel_rfl) ?_; rw [← hw4.out]))
        clear tok zn hw4 KR
        have C0 := mK (fun W (e : Ext w4 W) => row16_cells (e.blk zP4.out) 0)
        have C0 : Hid (∀ W, Ext w4 W → W.cell? ⟨w3.heap.size, 0, none⟩ = some (.string d.nm)) := C0
        have C1 := mK (fun W (e : Ext w4 W) => C1'.out W (hx24.out.trans e))
        apply region_ext [.val (.slice (some ⟨b, o, none⟩) (m + 1) sc), .val (.int .i64 ((m : Int) + 1)), .val (.bool true), .val (.bool true), .val (.pointer (some ⟨w3.heap.size, 0, none⟩)), .val (.string d.nm), .val (.slice (some ⟨b, o, none⟩) (m + 1) sc), .val (.slice (some ⟨b, o, none⟩) (m + 1) sc), .val (.int .i64 ((m : Int) + 1)), .val (.int .i64 (m : Int)), .val (.pointer (some ⟨b, o + m * 11, none⟩)), .val (.pointer (some ⟨b, o + m * 11, none⟩)), .val (.string L), .val (.bool true), .val (.bool true)] (by kernel_rfl)
        case hst =>
         iterate 15 (refine stable_vals _ ?_)
         trivial
        iterate 5 (refine ⟨fun W hW _ => by go_simp; first | exact ⟨xR _, rfl⟩ | exact xR _, ?_⟩)
        refine ⟨fun W hW _ => by have := C0.out W hW; go_simp; first | exact ⟨xR _, rfl⟩ | exact xR _, ?_⟩
        iterate 6 (refine ⟨fun W hW _ => by go_simp; first | exact ⟨xR _, rfl⟩ | exact xR _, ?_⟩)
        refine ⟨fun W hW _ => by have := C1.out W hW; go_simp; first | exact ⟨xR _, rfl⟩ | exact xR _, ?_⟩
        iterate 2 (refine ⟨fun W hW _ => by go_simp; first | exact ⟨xR _, rfl⟩ | exact xR _, ?_⟩)
        intro W hW _
        have EW := mK (E4.out.trans hW)
        clear C0 C1 E4
        go_simp
        (have tok : Tok 20 := .mk _)
        (have zRW := mK (EW.out.blk zR.out))
        (have zNW := mK (EW.out.blk zN.out))
        go_wp2_with (first
         | (replace tok : Tok 21 := nxT 20 tok; refine wpList_load_row (by rfl) 29 (.tmp 5) rfl (w.heap.size + 1) rfl 29 #[.bool true, .slice none 0 0] (0, 0) _ zNW.out Tryz.underlying29 rfl (by kernel_rfl) ?_)
         | (replace tok : Tok 22 := nxT 21 tok; refine wpList_store_row rfl 29 (.tmp 2) (.tmp 55) rfl w.heap.size #[.bool true, .slice none 0 0] rfl rfl 29 _ zRW.out (by kernel_rfl) rfl (by kernel_rfl) ?_))
        refine bodyPost_ret (results_row_tmp2 rfl _ _ w.heap.size 29 #[.bool true, .slice none 0 0] _ _ _ rfl rfl rfl (setRow_heap _ _ _ _ _ _ zRW.out) Tryz.underlying29 rfl (by kernel_rfl)) rfl ?_
        exact .inr ⟨m + 1, 5, hR.out.symm, rfl, (E1.out.trans EW.out).row (nR _) _⟩
       ·have hl2 : L = d.nm := ByteArray.ext (Array.ext' (show L.data.toList = d.nm.data.toList from h.symm))
        subst hl2
        have n1 : (d.nm.toList == d.nm.toList) = true := by simp
        have n2 : Op.bytesLess d.nm.toList d.nm.toList = false := by rw [less_bef]; exact bef_irr _
        clear hbf hnd h
        have tok : Tok 10 := .mk _
        go_wp2_with (first
         | (replace tok : Tok 11 := nxT 10 tok; go_at_call 17; refine (KR.out w2).mono ?_; rintro e w3 ⟨p, q, rfl, hv, hx⟩; (obtain ⟨w4, hw4⟩ : ∃ w4, w4 = (w3.alloc (.cells #[.string ⟨#[]⟩, .int .u8 0, .bool false, .slice none 0 0, .bool false, .slice none 0 0, .bool false, .slice none 0 0, .bool false, .slice none 0 0, .int .i64 0] 56)).setRow w3.heap.size #[.string d.nm, .int .u8 d.kd, .bool p.b1, .slice p.a1 p.n1 p.c1, .bool p.b2, .slice p.a2 p.n2 p.c2, .bool q.b1, .slice q.a1 q.n1 q.c1, .bool q.b2, .slice q.a2 q.n2 q.c2, .int .i64 d.co] := ⟨_, rfl⟩); (have zn := heap_alloc_new w3 (.cells #[.string ⟨#[]⟩, .int .u8 0, .bool false, .slice none 0 0, .bool false, .slice none 0 0, .bool false, .slice none 0 0, .bool false, .slice none 0 0, .int .i64 0] 56)); (have y4 : Ext w3 w4 := by rw [hw4]; exact ((xR w3).al _).row (nR _) _); (have zP4 := mK (show w4.heap[w3.heap.size]? = some (.cells #[.string d.nm, .int .u8 d.kd, .bool p.b1, .slice p.a1 p.n1 p.c1, .bool p.b2, .slice p.a2 p.n2 p.c2, .bool q.b1, .slice q.a1 q.n1 q.c1, .bool q.b2, .slice q.a2 q.n2 q.c2, .int .i64 d.co] 56 (0, 0)) by rw [hw4]; exact setRow_heap _ _ _ _ _ _ zn)); (have hv4 := mK (hv.ext y4)); (have hO4 := mK (hO.out.ext (hx.trans y4))); (have E4 := mK (hE.out.trans (hx.trans y4))); (have hx24 := mK (hx.trans y4)); replace hw4 := mK hw4; replace zn := mK zn; clear hx y4 hv hO hE)
         | (replace tok : Tok 12 := nxT 11 tok; refine wpList_store_row rfl 56 (.tmp 9) (.tmp 32) rfl w3.heap.size #[.string d.nm, .int .u8 d.kd, .bool p.b1, .slice p.a1 p.n1 p.c1, .bool p.b2, .slice p.a2 p.n2 p.c2, .bool q.b1, .slice q.a1 q.n1 q.c1, .bool q.b2, .slice q.a2 q.n2 q.c2, .int .i64 d.co] rfl rfl 56 _ zn.out (by kernel_rfl) rfl (by kernel_rfl) ?_; rw [← hw4.out]))
        clear tok zn hw4 KR
        have C0 := mK (fun W (e : Ext w4 W) => row16_cells (e.blk zP4.out) 0)
        have C0 : Hid (∀ W, Ext w4 W → W.cell? ⟨w3.heap.size, 0, none⟩ = some (.string d.nm)) := C0
        have C1 := mK (fun W (e : Ext w4 W) => C1'.out W (hx24.out.trans e))
        apply region_ext [.val (.slice (some ⟨b, o, none⟩) (m + 1) sc), .val (.int .i64 ((m : Int) + 1)), .val (.bool true), .val (.bool true), .val (.pointer (some ⟨w3.heap.size, 0, none⟩)), .val (.string d.nm), .val (.slice (some ⟨b, o, none⟩) (m + 1) sc), .val (.slice (some ⟨b, o, none⟩) (m + 1) sc), .val (.int .i64 ((m : Int) + 1)), .val (.int .i64 (m : Int)), .val (.pointer (some ⟨b, o + m * 11, none⟩)), .val (.pointer (some ⟨b, o + m * 11, none⟩)), .val (.string d.nm), .val (.bool true), .val (.bool true)] (by kernel_rfl)
        case hst =>
         iterate 15 (refine stable_vals _ ?_)
         trivial
        iterate 5 (refine ⟨fun W hW _ => by go_simp; first | exact ⟨xR _, rfl⟩ | exact xR _, ?_⟩)
        refine ⟨fun W hW _ => by have := C0.out W hW; go_simp; first | exact ⟨xR _, rfl⟩ | exact xR _, ?_⟩
        iterate 6 (refine ⟨fun W hW _ => by go_simp; first | exact ⟨xR _, rfl⟩ | exact xR _, ?_⟩)
        refine ⟨fun W hW _ => by have := C1.out W hW; go_simp; first | exact ⟨xR _, rfl⟩ | exact xR _, ?_⟩
        iterate 2 (refine ⟨fun W hW _ => by go_simp; first | exact ⟨xR _, rfl⟩ | exact xR _, ?_⟩)
        intro W hW _
        have EW := mK (E4.out.trans hW)
        clear C0 C1 E4
        go_simp
        (have tok : Tok 20 := .mk _)
        (have zRW := mK (EW.out.blk zR.out))
        (have zNW := mK (EW.out.blk zN.out))
        go_wp2_with (first
         | (replace tok : Tok 21 := nxT 20 tok; refine wpList_load_row (by rfl) 29 (.tmp 5) rfl (w.heap.size + 1) rfl 29 #[.bool true, .slice none 0 0] (0, 0) _ zNW.out Tryz.underlying29 rfl (by kernel_rfl) ?_)
         | (replace tok : Tok 22 := nxT 21 tok; refine wpList_store_row rfl 29 (.tmp 2) (.tmp 55) rfl w.heap.size #[.bool true, .slice none 0 0] rfl rfl 29 _ zRW.out (by kernel_rfl) rfl (by kernel_rfl) ?_))
        refine bodyPost_ret (results_row_tmp2 rfl _ _ w.heap.size 29 #[.bool true, .slice none 0 0] _ _ _ rfl rfl rfl (setRow_heap _ _ _ _ _ _ zRW.out) Tryz.underlying29 rfl (by kernel_rfl)) rfl ?_
        exact .inr ⟨m + 1, 5, hR.out.symm, rfl, (E1.out.trans EW.out).row (nR _) _⟩
   ·have hb1 : (s[i].toNat != 10) = true := by
     rw [bne_iff_ne]
     intro e
     exact h10 (UInt8.toNat_inj.1 e)
    have hb2 : ((s[i].toNat : Int) != 10) = true := by
     rw [bne_iff_ne] at hb1 ⊢
     omega
    have hno2 : (10 : UInt8) ∉ (s.data.toList.drop at').take (i + 1 - at') := by
     rw [take_more hat (by omega), hbk]
     simp only [List.mem_append, List.mem_singleton, not_or]
     exact ⟨hno, fun e => h10 e.symm⟩
    replace hno2 := mK hno2
    replace hO := mK hO
    replace hE := mK hE
    replace hR := mK hR
    clear hno h10 hbk
    go_wp2_with fail
    first
     | exact ⟨⟨i + 1, at', f, os, by go_num, rfl, by omega, by omega, hO.out, hE.out, hno2.out, hf, hfew, hR.out⟩, by simp [intOf] <;> omega⟩
     | ((go_roundw); case measure => (simp [intOf]; omega); case rel => (exact ⟨i + 1, at', f, os, by go_num, rfl, by omega, by omega, hO.out, hE.out, hno2.out, hf, hfew, hR.out⟩))
  ·obtain rfl : i = s.size := by omega
   have hni : ¬ (s.size : Int) < s.size := by omega
   obtain ⟨f, rfl⟩ : ∃ f', f = f' + 1 := ⟨f - 1, by omega⟩
   by_cases he : at' = s.size
   ·subst he
    rw [List.drop_of_length_le (by omega), parseL, if_pos rfl] at hR
    have hrl := mK hO
    have zRW := mK (hE.blk zR.out)
    have EW := mK (E1.out.trans hE)
    replace hR := mK hR
    clear hno hO hE hn hat hf
    go_wp2_with (refine wpList_store_row rfl 29 (.tmp 2) (.tmp 78) rfl w.heap.size #[.bool false, .slice sa n sc] rfl rfl 29 _ zRW.out (by kernel_rfl) rfl (by kernel_rfl) ?_)
    refine bodyPost_ret (results_row_tmp2 rfl _ _ w.heap.size 29 #[.bool false, .slice sa n sc] _ _ _ rfl rfl rfl (setRow_heap _ _ _ _ _ _ zRW.out) Tryz.underlying29 rfl (by kernel_rfl)) rfl ?_
    exact .inl ⟨_, _, os, hR.out.symm, rfl, (hrl.out.keep zRW.out (by have := hlo.out; omega) (by simp [f32V]) _).rowL, rfl, EW.out.row (nR _) _⟩
   ·have hd0 : s.data.toList.drop at' ≠ [] := by
     intro e
     have := congrArg List.length e
     rw [List.length_drop, hsl, List.length_nil] at this
     omega
    have hno2 : (10 : UInt8) ∉ s.data.toList.drop at' := by
     rw [List.take_of_length_le (by rw [List.length_drop]; omega)] at hno
     exact hno
    rw [parseL, if_neg hd0, cutL_miss hno2] at hR
    simp only [List.length_map] at hR
    rw [hn] at hR
    have hatI : (at' : Int) < s.size := by omega
    have EW := mK hE
    replace hR := mK hR
    clear hno hno2 hd0 hO hE hat hf
    (have tok : Tok 20 := .mk _)
    (have zRW := mK (EW.out.blk zR.out))
    (have zNW := mK (EW.out.blk zN.out))
    go_wp2_with (first
     | (replace tok : Tok 21 := nxT 20 tok; refine wpList_load_row (by rfl) 29 (.tmp 5) rfl (w.heap.size + 1) rfl 29 #[.bool true, .slice none 0 0] (0, 0) _ zNW.out Tryz.underlying29 rfl (by kernel_rfl) ?_)
     | (replace tok : Tok 22 := nxT 21 tok; refine wpList_store_row rfl 29 (.tmp 2) (.tmp 74) rfl w.heap.size #[.bool true, .slice none 0 0] rfl rfl 29 _ zRW.out (by kernel_rfl) rfl (by kernel_rfl) ?_))
    refine bodyPost_ret (results_row_tmp2 rfl _ _ w.heap.size 29 #[.bool true, .slice none 0 0] _ _ _ rfl rfl rfl (setRow_heap _ _ _ _ _ _ zRW.out) Tryz.underlying29 rfl (by kernel_rfl)) rfl ?_
    exact .inr ⟨n, 5, hR.out.symm, rfl, (E1.out.trans EW.out).row (nR _) _⟩
end Go.Proofs.YtjelnmokcpoofaaGreatDoor
