/-
  catalog.Parse: whole lines that tell of parts, and what stands behind them. What goes into a catalogue, in plain words: of a list of parts, those that go in, in their order; the catalogue has just these. law01: IntSize, FracSize, Lowest, FracCost. law01: MatrixCost, RayCost, Beyond, Whole, Trips: printed by tools/gen_cost.py. PeriodPell, walked: printed by tools/gen_pell.py. What comes in, opened: a fraction, a matrix, a ray as data. What comes in, opened: an element, a part, an op as data: printed by tools/gen_opens.py. What comes in: a list of parts as data. Loads out of the middle of a row whose cells are known one by one: no program. The catalogue's Put, where it refuses a part: printed by tools/gen_put.py.
-/
import Derived.Test.YtjelnmokcpoofaaGreatDoorKAL
import Derived.Test.YtjelnmokcpoofaaGreatDoorKAH
import Derived.Test.YtjelnmokcpoofaaGreatDoorKAI
import Derived.Test.YtjelnmokcpoofaaGreatDoorKAG
import Derived.Test.YtjelnmokcpoofaaGreatDoorKAD
import Derived.Test.YtjelnmokcpoofaaGreatDoorKAF
import Derived.ProofKit
import Derived.OpenShut
import Derived.Lib.SmallJoins
import Derived.Carry
import Derived.Deep.Slices
import Derived.SizedLaws
import Derived.Deep.MidRow
namespace Go.Proofs.YtjelnmokcpoofaaGreatDoor
set_option maxRecDepth 100000
open Go Go.RowKit Go.Proofs Go.WideElems Go.ChangeMaps Go.MapKept
theorem name_cmp {a b : ByteArray} (h : bytesBefore a.data.toList b.data.toList = true) : Op.bytesLess a.toList b.toList = true ∧ Op.bytesLess b.toList a.toList = false ∧ (a.toList == b.toList) = false ∧ (b.toList == a.toList) = false := by
  rw [ByteArray.toList_eq, ByteArray.toList_eq, less_bef, less_bef]
  have hlt := before_lt _ _ h
  have hne : a.data.toList ≠ b.data.toList := fun e => by rw [e, WideAt.bytes_irrefl] at h; cases h
  refine ⟨h, ?_, by simpa using hne, by simpa using Ne.symm hne⟩
  cases hb : bytesBefore b.data.toList a.data.toList with
  | false => rfl
  | true => exact absurd (List.lt_trans hlt (before_lt _ _ hb)) (List.lt_irrefl _)
/-- A line that is refused. -/
def LineE (W : World) (c : Int) (e : Ending) (w' : World) : Prop := e = .returned (.tuple #[.agg #[.string ⟨#[]⟩, .int .u8 0, .bool false, .slice none 0 0, .bool false, .slice none 0 0, .bool false, .slice none 0 0, .bool false, .slice none 0 0, .int .i64 0], .int .i64 c]) ∧ Ext W w'
/-- How a text ends behind its lines. -/
inductive EndQ (w : World) (ds : List PD) (rest : List UInt8) : Int → Prop
  | done : rest = [] → EndQ w ds rest 0
  | cut : rest ≠ [] → cutL 10 rest = none → EndQ w ds rest 5
  | line (t r : List UInt8) (c : Int) : cutL 10 rest = some (t, r) → c ≠ 0 → (∀ W, Ext w W → Calls Tryz.prog 16 #[.string ⟨t.toArray⟩] W (LineE W c)) → EndQ w ds rest c
  | name (t r : List UInt8) (d : PD) : cutL 10 rest = some (t, r) → (∀ W, Ext w W → Calls Tryz.prog 16 #[.string ⟨t.toArray⟩] W (PartQ W d)) → bytesBefore (lastN ds) (nmL d) = false → EndQ w ds rest 5
  | full (t r : List UInt8) (d : PD) : cutL 10 rest = some (t, r) → (∀ W, Ext w W → Calls Tryz.prog 16 #[.string ⟨t.toArray⟩] W (PartQ W d)) → bytesBefore (lastN ds) (nmL d) = true → 64 ≤ ds.length → EndQ w ds rest 12
/-- What Parse answers. -/
def ParseQ (w : World) (ds : List PD) (code : Int) (e : Ending) (w' : World) : Prop :=
  (code = 0 ∧ ∃ g M es, e = .returned (.tuple #[.pointer (some ⟨g, 0, none⟩), .int .i64 0, .int .i64 0]) ∧ Cat w' g M es ∧ es.map (·.1) = ds ∧ Ext w w' ∧ w.heap.size ≤ g ∧ w.heap.size ≤ M) ∨
  (code ≠ 0 ∧ e = .returned (.tuple #[.pointer none, .int .i64 ds.length, .int .i64 code]) ∧ Ext w w')
theorem Cat.putR {w w' : World} {g M : Nat} {es : List (PD × Value)} {d : PD} {v : Value} {lo : Nat} (h : Cat w g M es) (hm : MapP w' M (insP (d, v) es)) (hg : ∀ k, k < w.heap.size → k ≠ M → w'.heap[k]? = w.heap[k]?) (hs : w.heap.size ≤ w'.heap.size)
    (hr : PartR w v d) (hv : ∀ k ∈ Aloof.blks v, lo ≤ k ∧ k < w.heap.size) (hlo : M < lo) (hd : okPD d) (hl : es.length < 64) : Cat w' g M (insP (d, v) es) := by
  refine ⟨(hg g (Array.getElem?_eq_some_iff.1 h.str).1 h.ne).trans h.str, hm, fun x hx => ?_, fun x hx k hk => ?_, fun x hx k hk => ?_, fun x hx => ?_, by rw [insP_length]; omega⟩
  · rcases mem_insP.1 hx with rfl | hx
    · exact hr.near fun k hk => hg k (hv k hk).2 (by have := (hv k hk).1; omega)
    · exact (h.part x hx).near fun k hk => hg k (h.lie x hx k hk) (h.out x hx k hk)
  · rcases mem_insP.1 hx with rfl | hx
    · exact Nat.lt_of_lt_of_le (hv k hk).2 hs
    · exact Nat.lt_of_lt_of_le (h.lie x hx k hk) hs
  · rcases mem_insP.1 hx with rfl | hx
    · have := (hv k hk).1
      omega
    · exact h.out x hx k hk
  · rcases mem_insP.1 hx with rfl | hx
    · exact hd
    · exact h.ok x hx
theorem find_last {es : List (PD × Value)} {d : PD} (h : ∀ x ∈ es, bytesBefore (nmL x.1) (nmL d) = true) : findP d.nm es = none := by
  unfold findP
  rw [List.find?_eq_none]
  intro x hx hn
  have h1 := h x hx
  unfold nameIs at hn
  have e : nmL x.1 = nmL d := eq_of_beq hn
  rw [e, bef_irr] at h1
  cases h1
theorem ins_last {d : PD} {v : Value} : ∀ {es : List (PD × Value)}, (∀ x ∈ es, bytesBefore (nmL x.1) (nmL d) = true) → insP (d, v) es = es ++ [(d, v)]
  | [], _ => rfl
  | y :: r, h => by
    unfold insP
    rw [if_neg (by have := bef_asym _ _ (h y (by simp)); unfold nmL at this; rw [this]; simp), ins_last fun x hx => h x (by simp [hx])]
    rfl
theorem okPD_sz {d : PD} (h : okPD d) : d.nm.size ≤ 32 := by
  have := h.2.2.1
  unfold nameB at this
  simp only [Bool.and_eq_true, decide_eq_true_eq] at this
  have h2 := this.2.1
  rwa [list_size] at h2
theorem bef_total : ∀ a b : List UInt8, bytesBefore a b = false → bytesBefore b a = true ∨ b = a
  | [], [], _ => .inr rfl
  | [], _ :: _, h => by cases h
  | _ :: _, [], _ => .inl rfl
  | a :: x, b :: y, h => by
    have h : (decide (a < b) || (a == b && bytesBefore x y)) = false := h
    rw [Bool.or_eq_false_iff, decide_eq_false_iff_not] at h
    obtain ⟨h1, h2⟩ := h
    by_cases e : a = b
    · subst e
      rw [beq_self_eq_true, Bool.true_and] at h2
      rcases bef_total x y h2 with h3 | h3
      · refine .inl ?_
        show (decide (a < a) || (a == a && bytesBefore y x)) = true
        rw [h3]
        simp
      · exact .inr (by rw [h3])
    · refine .inl ?_
      have hlt : b < a := by
        rcases UInt8.lt_or_lt_of_ne e with h | h
        · exact absurd h h1
        · exact h
      show (decide (b < a) || (b == a && bytesBefore y x)) = true
      simp [hlt]
/-- The loop. -/
def ParI (w : World) (g M : Nat) (ds : List PD) (rest : List UInt8) (t0 t2 t3 t5 : Value) (wr : World) : Prop :=
  ∃ (k : Nat) (es : List (PD × Value)) (C L : ByteArray), k ≤ ds.length ∧ t2 = .pointer (some ⟨g, 0, none⟩) ∧ t0 = .string C ∧ C.data.toList = textB (ds.drop k) ++ rest ∧ t3 = .int .i64 k ∧ t5 = .string L ∧ L.data.toList = lastN (ds.take k) ∧ Cat wr g M es ∧ es.map (·.1) = ds.take k ∧ Ext w wr
theorem lastN_snoc (l : List PD) (d : PD) : lastN (l ++ [d]) = nmL d := by
  unfold lastN
  rw [List.getLast?_concat]
  rfl
theorem FracO.part {w : World} {lo : Nat} {d : PD} {p q : FV} (h1 : FracO w lo (.agg #[.bool p.b1, .slice p.a1 p.n1 p.c1, .bool p.b2, .slice p.a2 p.n2 p.c2]) d.p) (h2 : FracO w lo (.agg #[.bool q.b1, .slice q.a1 q.n1 q.c1, .bool q.b2, .slice q.a2 q.n2 q.c2]) d.q) : ∀ k ∈ Aloof.blks (.agg #[.string d.nm, .int .u8 d.kd, .bool p.b1, .slice p.a1 p.n1 p.c1, .bool p.b2, .slice p.a2 p.n2 p.c2, .bool q.b1, .slice q.a1 q.n1 q.c1, .bool q.b2, .slice q.a2 q.n2 q.c2, .int .i64 d.co]), lo ≤ k ∧ k < w.heap.size := by
  rw [blks_part]
  intro g hg
  rcases List.mem_append.1 hg with hg | hg
  · exact h1.span g hg
  · exact h2.span g hg
set_option maxRecDepth 100000 in
set_option maxHeartbeats 6400000 in
theorem catParse_gen (s : ByteArray) (w : World) (ds : List PD) (rest : List UInt8) (code : Int) (hs : s.size ≤ 65536) (he : s.data.toList = textB ds ++ rest) (hok : ∀ d ∈ ds, okPD d) (hr : Ris ds) (hl : ds.length ≤ 64) (hm : Max0 w) (ht : Tab10 w) (hend : EndQ w ds rest code) :
    Calls Tryz.prog 6 #[.string s] w (ParseQ w ds code) := by
  have KN := mkHid (new_c w)
  have hs' : ¬ (65536 : Int) < (s.size : Int) := by omega
  have hlen : (textB ds ++ rest).length ≤ 65536 := by rw [← he, list_size]; exact hs
  replace he := mkHid he
  replace hlen := mkHid hlen
  replace hok := mkHid hok
  replace hr := mkHid hr
  replace hend := mkHid hend
  have hM := mkHid (fun W (e : Ext w W) => hm.ext e)
  have hT := mkHid (fun W (e : Ext w W) => tab_ext ht e)
  clear hm ht hs
  go_enter Tryz.func6, Tryz.ntmps6
  have tok : Tok 0 := .mk _
  go_wp2_with ((have _t : Tok 0 := tok); clear _t; clear tok; (have tok : Tok 1 := .mk _); go_at_call 14; refine KN.out.mono ?_; rintro e w1 ⟨g, M, rfl, hcat, hE1, hg, hMl⟩; replace hcat := mkHid hcat; replace hE1 := mkHid hE1)
  clear KN tok
  have st : ParI w g M ds rest (.string s) (.pointer (some ⟨g, 0, none⟩)) (.int .i64 0) (.string ⟨#[]⟩) w1 := ⟨0, [], s, ⟨#[]⟩, Nat.zero_le _, rfl, rfl, he.out, rfl, rfl, rfl, hcat.out, rfl, hE1.out⟩
  replace st := mkHid st
  replace hg := mkHid hg
  replace hMl := mkHid hMl
  clear hcat hE1 hs' he
  go_loopw [0, 2, 3, 5] (fun t0 t2 t3 t5 wr => ParI w g M ds rest t0 t2 t3 t5 wr) (fun t0 _ _ _ _ => szS t0)
  case atStart => exact st.out
  case round =>
    clear st
    obtain ⟨k, es, C, L, hk, rfl, rfl, hC, rfl, rfl, hL, hcat, hmap, hEw⟩ := hrel
    obtain ⟨w2, rfl⟩ : ∃ w2 : World, w2 = wr := ⟨_, rfl⟩
    obtain ⟨cl, cs⟩ := str_facts hC
    by_cases hkd : k < ds.length
    · obtain ⟨d, hd⟩ : ∃ d, d = ds[k] := ⟨_, rfl⟩
      have hdrop : ds.drop k = d :: ds.drop (k + 1) := by rw [hd]; exact List.drop_eq_getElem_cons hkd
      have htake : ds.take (k + 1) = ds.take k ++ [d] := by rw [hd]; exact List.take_succ_eq_append_getElem hkd
      have hdok : okPD d := hok.out d (by rw [hd]; exact List.getElem_mem _)
      have hbef : ∀ x ∈ es, bytesBefore (nmL x.1) (nmL d) = true := fun x hx => by
        have h1 : x.1 ∈ ds.take k := by rw [← hmap]; exact List.mem_map_of_mem hx
        have h2 : Ris (ds.take k ++ d :: ds.drop (k + 1)) := by rw [← hdrop, List.take_append_drop]; exact hr.out
        exact (List.pairwise_append.1 h2).2.2 x.1 h1 d (by simp)
      have hlast : bytesBefore (lastN (ds.take k)) (nmL d) = true := by
        refine last_before (r := ds.drop (k + 1)) ?_ hdok.2.2.1
        rw [← hdrop, List.take_append_drop]
        exact hr.out
      have hel : es.length = k := by
        have := congrArg List.length hmap
        rw [List.length_map, List.length_take] at this
        omega
      rw [hdrop, textB_cons] at hC
      have hC' : C.data.toList = lineT d ++ 10 :: (textB (ds.drop (k + 1)) ++ rest) := by rw [hC]; simp
      have hcut : cutL 10 C.data.toList = some (lineT d, textB (ds.drop (k + 1)) ++ rest) := by rw [hC']; exact cutL_hit (line_free hdok.2.2.1)
      have hsz : C.size ≤ 65536 := by
        have h2 := hlen.out
        rw [List.length_append] at h2
        have h3 : (textB (ds.drop k)).length ≤ (textB ds).length := by
          conv => rhs; rw [← List.take_append_drop k ds, textB_app, List.length_append]
          omega
        rw [hdrop, textB_cons] at h3
        rw [← list_size, hC, List.length_append]
        omega
      have hll : (lineT d).length ≤ 65536 := by
        have h2 := congrArg List.length hC'
        rw [list_size, List.length_append, List.length_cons] at h2
        omega
      have hCne : C.toList ≠ [] := by rw [ByteArray.toList_eq, hC']; simp
      obtain ⟨f1, f2, f3⟩ := empty_facts (l := C.toList) (b := false) (decide_eq_false hCne)
      have KC := mkHid (cut_hit 10 C w2 (by omega) (hM.out _ hEw) hcut)
      have KR := mkHid (fun W (e : Ext w W) => read_line d W hdok hll (hM.out _ e) (hT.out _ e))
      obtain ⟨n1, n2, n3, n4⟩ := name_cmp (a := L) (b := d.nm) (by rw [hL]; exact hlast)
      obtain ⟨R, hR⟩ : ∃ R : ByteArray, R = ⟨(textB (ds.drop (k + 1)) ++ rest).toArray⟩ := ⟨_, rfl⟩
      rw [← hR] at KC
      have hRl : R.data.toList = textB (ds.drop (k + 1)) ++ rest := by rw [hR]
      have hRs : R.size < C.size := by
        rw [← list_size, ← list_size, hRl, hC']
        simp only [List.length_append, List.length_cons]
        omega
      obtain ⟨T, hTx⟩ : ∃ T : ByteArray, T = ⟨(lineT d).toArray⟩ := ⟨_, rfl⟩
      rw [← hTx] at KC KR
      have hk64 : (k : Int) < 64 := by omega
      replace hdok := mkHid hdok
      replace hbef := mkHid hbef
      replace hcat := mkHid hcat
      replace hEw := mkHid hEw
      replace hmap := mkHid hmap
      replace htake := mkHid htake
      replace hRl := mkHid hRl
      replace hRs := mkHid hRs
      replace hel := mkHid hel
      clear hd hdrop hlast hC hC' hcut hsz hll hCne cl cs hR hTx hL
      have tok : Tok 2 := .mk _
      go_wp2_with (first
        | ((have _t : Tok 2 := tok); clear _t; clear tok; (have tok : Tok 3 := .mk _); go_at_call 15; refine KC.out.mono ?_; rintro e w3 ⟨rfl, hx⟩; (have hE2 := mkHid (hEw.out.trans hx)); (have hc2 := mkHid (hcat.out.ext hx)); clear hx)
        | ((have _t : Tok 3 := tok); clear _t; clear tok; (have tok : Tok 4 := .mk _); go_at_call 16; refine (KR.out _ hE2.out).mono ?_; rintro e w4 ⟨p, q, rfl, hp, hq, hx⟩; (have hE3 := hE2.out.trans hx); (have hc3 := hc2.out.ext hx);
            (obtain ⟨w5, hw5⟩ : ∃ w5, w5 = (w4.alloc (.cells #[.string ⟨#[]⟩, .int .u8 0, .bool false, .slice none 0 0, .bool false, .slice none 0 0, .bool false, .slice none 0 0, .bool false, .slice none 0 0, .int .i64 0] 56)).setRow w4.heap.size #[.string d.nm, .int .u8 d.kd, .bool p.b1, .slice p.a1 p.n1 p.c1, .bool p.b2, .slice p.a2 p.n2 p.c2, .bool q.b1, .slice q.a1 q.n1 q.c1, .bool q.b2, .slice q.a2 q.n2 q.c2, .int .i64 d.co] := ⟨_, rfl⟩);
            (have zn := heap_alloc_new w4 (.cells #[.string ⟨#[]⟩, .int .u8 0, .bool false, .slice none 0 0, .bool false, .slice none 0 0, .bool false, .slice none 0 0, .bool false, .slice none 0 0, .int .i64 0] 56));
            (have z5 := mkHid (show w5.heap[w4.heap.size]? = some (.cells #[.string d.nm, .int .u8 d.kd, .bool p.b1, .slice p.a1 p.n1 p.c1, .bool p.b2, .slice p.a2 p.n2 p.c2, .bool q.b1, .slice q.a1 q.n1 q.c1, .bool q.b2, .slice q.a2 q.n2 q.c2, .int .i64 d.co] 56 (0, 0)) by rw [hw5]; exact setRow_heap _ _ _ _ _ _ zn));
            (have hx5 : Ext w4 w5 := by rw [hw5]; exact ((Ext.refl w4).al _).row (Nat.le_refl _) _);
            (have hsp := mkHid (fun k hk => ((⟨Nat.le_trans (Nat.le_of_eq rfl) (hp.part hq k hk).1, Nat.lt_of_lt_of_le (hp.part hq k hk).2 hx5.size⟩ : w3.heap.size ≤ k ∧ k < w5.heap.size))));
            (have hpr := mkHid ((PartR.mk hp.r hq.r).ext hx5));
            (have hMs := mkHid (show M < w3.heap.size from hc2.out.map.lt));
            (have hgM : w4.heap.size ≠ M := by have := hc3.map.lt; omega);
            (have hc5 := mkHid (hc3.ext hx5)); (have hE5 := mkHid (hE3.trans hx5)); replace hw5 := mkHid hw5; replace zn := mkHid zn; clear hx hx5 hc3 hE3 hp hq)
        | ((have _t : Tok 4 := tok); clear _t; clear tok; (have tok : Tok 5 := .mk _); refine wpList_store_row rfl 56 (.tmp 9) (.tmp 31) rfl w4.heap.size #[.string d.nm, .int .u8 d.kd, .bool p.b1, .slice p.a1 p.n1 p.c1, .bool p.b2, .slice p.a2 p.n2 p.c2, .bool q.b1, .slice q.a1 q.n1 q.c1, .bool q.b2, .slice q.a2 q.n2 q.c2, .int .i64 d.co] rfl rfl 56 _ zn.out (by kernel_rfl) rfl (by kernel_rfl) ?_; rw [← hw5.out]; (have c0 : w5.cell? ⟨w4.heap.size, 0, none⟩ = some (.string d.nm) := row16_cells z5.out 0)))
      clear tok c0
      have hnm : d.nm.size ≤ maxLen := by
        have := okPD_sz hdok.out
        unfold maxLen
        omega
      obtain ⟨a, clock, hck, F, hnk, hmp⟩ := mapP_new hc5.out.map (d, .agg #[.string d.nm, .int .u8 d.kd, .bool p.b1, .slice p.a1 p.n1 p.c1, .bool p.b2, .slice p.a2 p.n2 p.c2, .bool q.b1, .slice q.a1 q.n1 q.c1, .bool q.b2, .slice q.a2 q.n2 q.c2, .int .i64 d.co]) hnm (by have := hel.out; unfold maxLen; omega) (find_last hbef.out)
      replace hnk : ∀ e ∈ a.toList, e.key ≠ .string d.nm := hnk
      replace hmp : ∀ W : World, W.heap[M]? = some (newA a d.nm (.agg #[.string d.nm, .int .u8 d.kd, .bool p.b1, .slice p.a1 p.n1 p.c1, .bool p.b2, .slice p.a2 p.n2 p.c2, .bool q.b1, .slice q.a1 q.n1 q.c1, .bool q.b2, .slice q.a2 q.n2 q.c2, .int .i64 d.co]) clock) → MapP W M (insP (d, .agg #[.string d.nm, .int .u8 d.kd, .bool p.b1, .slice p.a1 p.n1 p.c1, .bool p.b2, .slice p.a2 p.n2 p.c2, .bool q.b1, .slice q.a1 q.n1 q.c1, .bool q.b2, .slice q.a2 q.n2 q.c2, .int .i64 d.co]) es) := hmp
      have hgs := hc5.out.str
      have hgne : g ≠ M := hc5.out.ne
      have hMlt := (Array.getElem?_eq_some_iff.1 hck).1
      have HL : ∀ W, EnA M a d.nm (.agg #[.string d.nm, .int .u8 d.kd, .bool p.b1, .slice p.a1 p.n1 p.c1, .bool p.b2, .slice p.a2 p.n2 p.c2, .bool q.b1, .slice q.a1 q.n1 q.c1, .bool q.b2, .slice q.a2 q.n2 q.c2, .int .i64 d.co]) clock w5 W → W.cell? ⟨g, 0, none⟩ = some (.map (some M)) := fun W e => cell0 (e.blk hgs hgne)
      have HS : ∀ W, EnA M a d.nm (.agg #[.string d.nm, .int .u8 d.kd, .bool p.b1, .slice p.a1 p.n1 p.c1, .bool p.b2, .slice p.a2 p.n2 p.c2, .bool q.b1, .slice q.a1 q.n1 q.c1, .bool q.b2, .slice q.a2 q.n2 q.c2, .int .i64 d.co]) clock w5 W → W.cell? ⟨w4.heap.size, 0, none⟩ = some (.string d.nm) := fun W e => row16_cells (e.blk z5.out hgM) 0
      have HP := mkHid (fun W (e : EnA M a d.nm (.agg #[.string d.nm, .int .u8 d.kd, .bool p.b1, .slice p.a1 p.n1 p.c1, .bool p.b2, .slice p.a2 p.n2 p.c2, .bool q.b1, .slice q.a1 q.n1 q.c1, .bool q.b2, .slice q.a2 q.n2 q.c2, .int .i64 d.co]) clock w5 W) => e.blk z5.out hgM)
      have hset : Hid (∀ (W : World) (o o' : Obj), W.heap[M]? = some o → (setBlock W M o').heap[M]? = some o') := mkHid fun W o o' h => by
        have := (Array.getElem?_eq_some_iff.1 h).1
        simp [setBlock, this]
      have HE : Hid (∀ W, EnA M a d.nm (.agg #[.string d.nm, .int .u8 d.kd, .bool p.b1, .slice p.a1 p.n1 p.c1, .bool p.b2, .slice p.a2 p.n2 p.c2, .bool q.b1, .slice q.a1 q.n1 q.c1, .bool q.b2, .slice q.a2 q.n2 q.c2, .int .i64 d.co]) clock w5 W → ∃ v W', (Instr.mapEntry 59 (.map (some M)) (.string d.nm)).run Tryz.prog W = .ok v W' ∧ (EnA M a d.nm (.agg #[.string d.nm, .int .u8 d.kd, .bool p.b1, .slice p.a1 p.n1 p.c1, .bool p.b2, .slice p.a2 p.n2 p.c2, .bool q.b1, .slice q.a1 q.n1 q.c1, .bool q.b2, .slice q.a2 q.n2 q.c2, .int .i64 d.co]) clock W W' ∧ EntA M a d.nm (.agg #[.string d.nm, .int .u8 d.kd, .bool p.b1, .slice p.a1 p.n1 p.c1, .bool p.b2, .slice p.a2 p.n2 p.c2, .bool q.b1, .slice q.a1 q.n1 q.c1, .bool q.b2, .slice q.a2 q.n2 q.c2, .int .i64 d.co]) clock W' v)) := mkHid fun W e => by
        rcases e.map with f | ⟨f1, f⟩ | f | f
        · have f := f.trans hck
          exact ⟨_, _, entry_newA W M clock a _ hnm F hnk f, EnA.set f (.inr (.inl ⟨rfl, rfl⟩)), ⟨_, rfl⟩, .inl (hset.out _ _ _ f)⟩
        · exact ⟨_, _, entry_oldA W M clock a _ _ hnm F hnk f, EnA.set f (.inl rfl), ⟨_, rfl⟩, .inl (hset.out _ _ _ f)⟩
        · exact ⟨_, _, entry_oldA W M clock a _ _ hnm F hnk f, EnA.set f (.inl rfl), ⟨_, rfl⟩, .inr (hset.out _ _ _ f)⟩
        · omega
      have HX : Hid (∀ W, HasE M a d.nm (.agg #[.string d.nm, .int .u8 d.kd, .bool p.b1, .slice p.a1 p.n1 p.c1, .bool p.b2, .slice p.a2 p.n2 p.c2, .bool q.b1, .slice q.a1 q.n1 q.c1, .bool q.b2, .slice q.a2 q.n2 q.c2, .int .i64 d.co]) clock W → ∃ W', (Instr.entryStore 59 (.map (some M)) (.int .i64 clock) (.agg #[.string d.nm, .int .u8 d.kd, .bool p.b1, .slice p.a1 p.n1 p.c1, .bool p.b2, .slice p.a2 p.n2 p.c2, .bool q.b1, .slice q.a1 q.n1 q.c1, .bool q.b2, .slice q.a2 q.n2 q.c2, .int .i64 d.co])).run Tryz.prog W = .ok () W' ∧ (EnA M a d.nm (.agg #[.string d.nm, .int .u8 d.kd, .bool p.b1, .slice p.a1 p.n1 p.c1, .bool p.b2, .slice p.a2 p.n2 p.c2, .bool q.b1, .slice q.a1 q.n1 q.c1, .bool q.b2, .slice q.a2 q.n2 q.c2, .int .i64 d.co]) clock W W' ∧ DoneA M a d.nm (.agg #[.string d.nm, .int .u8 d.kd, .bool p.b1, .slice p.a1 p.n1 p.c1, .bool p.b2, .slice p.a2 p.n2 p.c2, .bool q.b1, .slice q.a1 q.n1 q.c1, .bool q.b2, .slice q.a2 q.n2 q.c2, .int .i64 d.co]) clock W' undef)) := mkHid fun W h => by
        rcases h with h | h
        · exact ⟨_, entry_storeA W M clock a _ _ _ F h, EnA.set h (.inr (.inr rfl)), hset.out _ _ _ h⟩
        · exact ⟨_, entry_storeA W M clock a _ _ _ F h, EnA.set h (.inr (.inr rfl)), hset.out _ _ _ h⟩
      replace hck := mkHid hck
      replace hmp := mkHid hmp
      clear hgs hMlt hnk F hnm
      apply region_entryA M a d.nm (.agg #[.string d.nm, .int .u8 d.kd, .bool p.b1, .slice p.a1 p.n1 p.c1, .bool p.b2, .slice p.a2 p.n2 p.c2, .bool q.b1, .slice q.a1 q.n1 q.c1, .bool q.b2, .slice q.a2 q.n2 q.c2, .int .i64 d.co]) clock [.val (.pointer (some ⟨g, 0, none⟩)), .val (.pointer (some ⟨g, 0, none⟩)), .val (.pointer (some ⟨g, 0, none⟩)), .val (.map (some M)), .val (.pointer (some ⟨w4.heap.size, 0, none⟩)), .val (.string d.nm), .val (.agg #[.string d.nm, .int .u8 d.kd, .bool p.b1, .slice p.a1 p.n1 p.c1, .bool p.b2, .slice p.a2 p.n2 p.c2, .bool q.b1, .slice q.a1 q.n1 q.c1, .bool q.b2, .slice q.a2 q.n2 q.c2, .int .i64 d.co]), .val (.pointer (some ⟨w4.heap.size, 0, none⟩)), .val (.string d.nm), .val (.string R), .pred (EntA M a d.nm (.agg #[.string d.nm, .int .u8 d.kd, .bool p.b1, .slice p.a1 p.n1 p.c1, .bool p.b2, .slice p.a2 p.n2 p.c2, .bool q.b1, .slice q.a1 q.n1 q.c1, .bool q.b2, .slice q.a2 q.n2 q.c2, .int .i64 d.co]) clock), .pred (ClkA M a d.nm (.agg #[.string d.nm, .int .u8 d.kd, .bool p.b1, .slice p.a1 p.n1 p.c1, .bool p.b2, .slice p.a2 p.n2 p.c2, .bool q.b1, .slice q.a1 q.n1 q.c1, .bool q.b2, .slice q.a2 q.n2 q.c2, .int .i64 d.co]) clock), .pred (DoneA M a d.nm (.agg #[.string d.nm, .int .u8 d.kd, .bool p.b1, .slice p.a1 p.n1 p.c1, .bool p.b2, .slice p.a2 p.n2 p.c2, .bool q.b1, .slice q.a1 q.n1 q.c1, .bool q.b2, .slice q.a2 q.n2 q.c2, .int .i64 d.co]) clock), .val (.string d.nm)]
      case hok => kernel_rfl
      case hst => exact (sA_val _ (sA_val _ (sA_val _ (sA_val _ (sA_val _ (sA_val _ (sA_val _ (sA_val _ (sA_val _ (sA_val _ (sA_ent (sA_clk (sA_done (sA_val _ trivial))))))))))))))
      case hvo =>
        iterate 12 (refine ⟨(by intro h; cases h), ?_⟩)
        exact ⟨fun _ _ _ h => h, (by intro h; cases h), trivial⟩
      iterate 3 (refine ⟨fun W hW _ => by go_simp; first | exact ⟨.of_ext (Ext.refl _), rfl⟩ | exact .of_ext (Ext.refl _), ?_⟩)
      refine ⟨fun W hW _ => by have := HL W hW; go_simp; first | exact ⟨.of_ext (Ext.refl _), rfl⟩ | exact .of_ext (Ext.refl _), ?_⟩
      refine ⟨fun W hW _ => by go_simp; first | exact ⟨.of_ext (Ext.refl _), rfl⟩ | exact .of_ext (Ext.refl _), ?_⟩
      refine ⟨fun W hW _ => by have := HS W hW; go_simp; first | exact ⟨.of_ext (Ext.refl _), rfl⟩ | exact .of_ext (Ext.refl _), ?_⟩
      refine ⟨?ld, ?_⟩
      case ld =>
        intro W hW hF
        have hr := HP.out W hW
        with_reducible refine fr_load ?zhw 56 (.tmp 9) ?zho w4.heap.size ?zhx 56 #[.string d.nm, .int .u8 d.kd, .bool p.b1, .slice p.a1 p.n1 p.c1, .bool p.b2, .slice p.a2 p.n2 p.c2, .bool q.b1, .slice q.a1 q.n1 q.c1, .bool q.b2, .slice q.a2 q.n2 q.c2, .int .i64 d.co] (0, 0) _ hr Tryz.underlying56 ?zhd ?zhi ?zh
        case zhw => kernel_rfl
        case zho => rfl
        case zhx => kernel_rfl
        case zhd => rfl
        case zhi => kernel_rfl
        case zh => exact ⟨.of_ext (Ext.refl _), rfl⟩
      refine ⟨fun W hW _ => by go_simp; first | exact ⟨.of_ext (Ext.refl _), rfl⟩ | exact .of_ext (Ext.refl _), ?_⟩
      refine ⟨fun W hW _ => by have := HS W hW; go_simp; first | exact ⟨.of_ext (Ext.refl _), rfl⟩ | exact .of_ext (Ext.refl _), ?_⟩
      refine ⟨fun W hW _ => by go_simp; first | exact ⟨.of_ext (Ext.refl _), rfl⟩ | exact .of_ext (Ext.refl _), ?_⟩
      refine ⟨?en, fun v10 => ?_⟩
      case en =>
        intro W hW hF
        have y1 := HE.out W hW
        with_reducible refine fr_entry ?zhw 59 (.tmp 51) (.tmp 53) ?zho (.map (some M)) (.string d.nm) ?zhm ?zhk y1
        case zhw => kernel_rfl
        case zho => rfl
        case zhm => kernel_rfl
        case zhk => kernel_rfl
      refine ⟨?ex, fun v11 => ?_⟩
      case ex =>
        intro W hW hF
        have hv : (∃ y, v10 = .tuple #[y, .int .i64 clock]) ∧ HasE M a d.nm (.agg #[.string d.nm, .int .u8 d.kd, .bool p.b1, .slice p.a1 p.n1 p.c1, .bool p.b2, .slice p.a2 p.n2 p.c2, .bool q.b1, .slice q.a1 q.n1 q.c1, .bool q.b2, .slice q.a2 q.n2 q.c2, .int .i64 d.co]) clock W := hF.1 (by kernel_rfl)
        with_reducible refine fr_extract1 ?zhw (.tmp 58) ?zho v10 (.int .i64 clock) ?zhx hv.1 ?zh
        case zhw => kernel_rfl
        case zho => rfl
        case zhx => kernel_rfl
        case zh => exact ⟨.of_ext (Ext.refl _), rfl, hv.2⟩
      refine ⟨?es, fun v12 => ?_⟩
      case es =>
        intro W hW hF
        have hv : v11 = .int .i64 clock ∧ HasE M a d.nm (.agg #[.string d.nm, .int .u8 d.kd, .bool p.b1, .slice p.a1 p.n1 p.c1, .bool p.b2, .slice p.a2 p.n2 p.c2, .bool q.b1, .slice q.a1 q.n1 q.c1, .bool q.b2, .slice q.a2 q.n2 q.c2, .int .i64 d.co]) clock W := hF.1 (by kernel_rfl)
        have y1 := HX.out W hv.2
        rw [← hv.1] at y1
        with_reducible refine fr_estore ?zhw 59 (.tmp 51) (.tmp 59) (.tmp 54) ?zho (.map (some M)) v11 (.agg #[.string d.nm, .int .u8 d.kd, .bool p.b1, .slice p.a1 p.n1 p.c1, .bool p.b2, .slice p.a2 p.n2 p.c2, .bool q.b1, .slice q.a1 q.n1 q.c1, .bool q.b2, .slice q.a2 q.n2 q.c2, .int .i64 d.co]) ?zhm ?zhk ?zhx y1
        case zhw => kernel_rfl
        case zho => rfl
        case zhm => kernel_rfl
        case zhk => kernel_rfl
        case zhx => kernel_rfl
      refine ⟨fun W hW _ => by go_simp; first | exact ⟨.of_ext (Ext.refl _), rfl⟩ | exact .of_ext (Ext.refl _), ?_⟩
      case _ =>
        intro w6 hW hF
        have hdone : w6.heap[M]? = some (newA a d.nm (.agg #[.string d.nm, .int .u8 d.kd, .bool p.b1, .slice p.a1 p.n1 p.c1, .bool p.b2, .slice p.a2 p.n2 p.c2, .bool q.b1, .slice q.a1 q.n1 q.c1, .bool q.b2, .slice q.a2 q.n2 q.c2, .int .i64 d.co]) clock) := hF.1 rfl
        have hc6 : Cat w6 g M (es ++ [(d, .agg #[.string d.nm, .int .u8 d.kd, .bool p.b1, .slice p.a1 p.n1 p.c1, .bool p.b2, .slice p.a2 p.n2 p.c2, .bool q.b1, .slice q.a1 q.n1 q.c1, .bool q.b2, .slice q.a2 q.n2 q.c2, .int .i64 d.co])]) := by
          rw [← ins_last hbef.out]
          exact hc5.out.putR (hmp.out w6 hdone) hW.block hW.size hpr.out hsp.out hMs.out hdok.out (by have := hel.out; omega)
        have hE6 : Ext w w6 := by
          have h1 := hE5.out
          refine ⟨hW.os.trans h1.os, hW.tape.trans h1.tape, hW.output.trans h1.output, Nat.le_trans h1.size hW.size, fun j hj => ?_⟩
          rw [hW.block j (Nat.lt_of_lt_of_le hj h1.size) (by have := hMl.out; omega)]
          exact h1.block j hj
        replace hE6 := mkHid hE6
        replace hc6 := mkHid hc6
        clear HL HS hF hW hdone
        go_simp
        go_wp2_with fail
        refine ⟨⟨k + 1, _, R, d.nm, by omega, rfl, rfl, hRl.out, by go_num, rfl, ?_, hc6.out, ?_, hE6.out⟩, hRs.out⟩
        · rw [htake.out, lastN_snoc]
          rfl
        · rw [List.map_append, hmap.out, htake.out]
          rfl
    · obtain rfl : k = ds.length := by omega
      rw [List.take_length] at hL hmap
      rw [List.drop_length, show textB [] = [] from rfl, List.nil_append] at hC cl cs
      have hsz : C.size ≤ 65536 := by
        have h2 := hlen.out
        rw [List.length_append] at h2
        omega
      clear hkd hk hok hr hlen
      cases hend.out with
      | done h0 =>
        obtain ⟨f1, f2, f3⟩ := empty_facts (l := C.toList) (b := true) (by rw [cl, h0]; rfl)
        replace hcat := mkHid hcat
        replace hmap := mkHid hmap
        replace hEw := mkHid hEw
        clear hC cl cs hL hsz h0
        go_wp2_with fail
        go_ret3
        exact .inl ⟨rfl, g, M, es, rfl, hcat.out, hmap.out, hEw.out, hg.out, hMl.out⟩
      | cut h0 hcut =>
        have hCne : C.toList ≠ [] := by rw [cl]; exact h0
        obtain ⟨f1, f2, f3⟩ := empty_facts (l := C.toList) (b := false) (decide_eq_false hCne)
        have KC := mkHid (cut_miss 10 C w2 (by omega) (hM.out _ hEw) (by rw [hC]; exact hcut))
        replace hEw := mkHid hEw
        clear hC cl cs hL hsz h0 hCne hcut hcat hmap
        go_wp2_with (go_at_call 15; refine KC.out.mono ?_; rintro e w3 ⟨rfl, hx⟩; (have hE2 := mkHid (hEw.out.trans hx)); clear hx)
        go_ret3
        exact .inr ⟨by decide, rfl, hE2.out⟩
      | line t r _ hcut hc KR =>
        obtain ⟨C1, hC1⟩ : ∃ C1 : ByteArray, C1 = ⟨t.toArray⟩ := ⟨_, rfl⟩
        obtain ⟨C2, hC2⟩ : ∃ C2 : ByteArray, C2 = ⟨r.toArray⟩ := ⟨_, rfl⟩
        have hCne : C.toList ≠ [] := by
          rw [cl]
          intro e
          rw [e] at hcut
          cases hcut
        obtain ⟨f1, f2, f3⟩ := empty_facts (l := C.toList) (b := false) (decide_eq_false hCne)
        have KC := cut_hit 10 C w2 (by omega) (hM.out _ hEw) (by rw [hC]; exact hcut)
        rw [← hC1, ← hC2] at KC
        rw [← hC1] at KR
        replace KC := mkHid KC
        replace KR := mkHid KR
        replace hEw := mkHid hEw
        clear hC1 hC2 hCne hcut hC cl cs hcat hmap
        have hcb : (code != 0) = true := by simpa using hc
        replace hc := mkHid hc
        clear hL hsz
        have tok : Tok 2 := .mk _
        go_wp2_with (first
          | ((have _t : Tok 2 := tok); clear _t; clear tok; (have tok : Tok 3 := .mk _); go_at_call 15; refine KC.out.mono ?_; rintro e w3 ⟨rfl, hx⟩; (have hE2 := mkHid (hEw.out.trans hx)); clear hx)
          | ((have _t : Tok 3 := tok); clear _t; clear tok; (have tok : Tok 4 := .mk _); go_at_call 16; refine (KR.out _ hE2.out).mono ?_; rintro e w4 ⟨rfl, hx⟩; (have hE3 := mkHid (hE2.out.trans hx)); clear hx;
              (obtain ⟨w5, hw5⟩ : ∃ w5, w5 = (w4.alloc (.cells #[.string ⟨#[]⟩, .int .u8 0, .bool false, .slice none 0 0, .bool false, .slice none 0 0, .bool false, .slice none 0 0, .bool false, .slice none 0 0, .int .i64 0] 56)).setRow w4.heap.size #[.string ⟨#[]⟩, .int .u8 0, .bool false, .slice none 0 0, .bool false, .slice none 0 0, .bool false, .slice none 0 0, .bool false, .slice none 0 0, .int .i64 0] := ⟨_, rfl⟩); (have zn := heap_alloc_new w4 (.cells #[.string ⟨#[]⟩, .int .u8 0, .bool false, .slice none 0 0, .bool false, .slice none 0 0, .bool false, .slice none 0 0, .bool false, .slice none 0 0, .int .i64 0] 56)); (have hE5 := mkHid (show Ext w w5 by rw [hw5]; exact (hE3.out.al _).row hE3.out.size _)); replace hw5 := mkHid hw5; replace zn := mkHid zn)
          | ((have _t : Tok 4 := tok); clear _t; clear tok; (have tok : Tok 5 := .mk _); refine wpList_store_row rfl 56 (.tmp 9) (.tmp 31) rfl w4.heap.size #[.string ⟨#[]⟩, .int .u8 0, .bool false, .slice none 0 0, .bool false, .slice none 0 0, .bool false, .slice none 0 0, .bool false, .slice none 0 0, .int .i64 0] rfl rfl 56 _ zn.out (by kernel_rfl) rfl (by kernel_rfl) ?_; rw [← hw5.out]))
        go_ret3
        exact .inr ⟨hc.out, rfl, hE5.out⟩
      | name t r d hcut KR hb =>
        obtain ⟨C1, hC1⟩ : ∃ C1 : ByteArray, C1 = ⟨t.toArray⟩ := ⟨_, rfl⟩
        obtain ⟨C2, hC2⟩ : ∃ C2 : ByteArray, C2 = ⟨r.toArray⟩ := ⟨_, rfl⟩
        have hCne : C.toList ≠ [] := by
          rw [cl]
          intro e
          rw [e] at hcut
          cases hcut
        obtain ⟨f1, f2, f3⟩ := empty_facts (l := C.toList) (b := false) (decide_eq_false hCne)
        have KC := cut_hit 10 C w2 (by omega) (hM.out _ hEw) (by rw [hC]; exact hcut)
        rw [← hC1, ← hC2] at KC
        rw [← hC1] at KR
        replace KC := mkHid KC
        replace KR := mkHid KR
        replace hEw := mkHid hEw
        clear hC1 hC2 hCne hcut hC cl cs hcat hmap
        rw [← hL] at hb
        rcases bef_total _ _ hb with h | h
        · obtain ⟨n1, n2, n3, n4⟩ := name_cmp (a := d.nm) (b := L) h
          clear hL hsz hb h
          have tok : Tok 2 := .mk _
          go_wp2_with (first
            | ((have _t : Tok 2 := tok); clear _t; clear tok; (have tok : Tok 3 := .mk _); go_at_call 15; refine KC.out.mono ?_; rintro e w3 ⟨rfl, hx⟩; (have hE2 := mkHid (hEw.out.trans hx)); clear hx)
            | ((have _t : Tok 3 := tok); clear _t; clear tok; (have tok : Tok 4 := .mk _); go_at_call 16; refine (KR.out _ hE2.out).mono ?_; rintro e w4 ⟨p, q, rfl, -, -, hx⟩; (have hE3 := hE2.out.trans hx);
                (obtain ⟨w5, hw5⟩ : ∃ w5, w5 = (w4.alloc (.cells #[.string ⟨#[]⟩, .int .u8 0, .bool false, .slice none 0 0, .bool false, .slice none 0 0, .bool false, .slice none 0 0, .bool false, .slice none 0 0, .int .i64 0] 56)).setRow w4.heap.size #[.string d.nm, .int .u8 d.kd, .bool p.b1, .slice p.a1 p.n1 p.c1, .bool p.b2, .slice p.a2 p.n2 p.c2, .bool q.b1, .slice q.a1 q.n1 q.c1, .bool q.b2, .slice q.a2 q.n2 q.c2, .int .i64 d.co] := ⟨_, rfl⟩);
                (have zn := heap_alloc_new w4 (.cells #[.string ⟨#[]⟩, .int .u8 0, .bool false, .slice none 0 0, .bool false, .slice none 0 0, .bool false, .slice none 0 0, .bool false, .slice none 0 0, .int .i64 0] 56));
                (have z5 := mkHid (show w5.heap[w4.heap.size]? = some (.cells #[.string d.nm, .int .u8 d.kd, .bool p.b1, .slice p.a1 p.n1 p.c1, .bool p.b2, .slice p.a2 p.n2 p.c2, .bool q.b1, .slice q.a1 q.n1 q.c1, .bool q.b2, .slice q.a2 q.n2 q.c2, .int .i64 d.co] 56 (0, 0)) by rw [hw5]; exact setRow_heap _ _ _ _ _ _ zn));
                (have hE5 := mkHid (show Ext w w5 by rw [hw5]; exact (hE3.al _).row (Nat.le_trans (hE3.size) (Nat.le_refl _)) _)); replace hw5 := mkHid hw5; replace zn := mkHid zn; clear hx hE3)
            | ((have _t : Tok 4 := tok); clear _t; clear tok; (have tok : Tok 5 := .mk _); refine wpList_store_row rfl 56 (.tmp 9) (.tmp 31) rfl w4.heap.size #[.string d.nm, .int .u8 d.kd, .bool p.b1, .slice p.a1 p.n1 p.c1, .bool p.b2, .slice p.a2 p.n2 p.c2, .bool q.b1, .slice q.a1 q.n1 q.c1, .bool q.b2, .slice q.a2 q.n2 q.c2, .int .i64 d.co] rfl rfl 56 _ zn.out (by kernel_rfl) rfl (by kernel_rfl) ?_; rw [← hw5.out]; (have c0 : w5.cell? ⟨w4.heap.size, 0, none⟩ = some (.string d.nm) := row16_cells z5.out 0)))
          go_ret3
          exact .inr ⟨by decide, rfl, hE5.out⟩
        · have hl2 : L = d.nm := ByteArray.ext (Array.ext' (show L.data.toList = d.nm.data.toList from h.symm))
          clear hL hsz hb h
          subst hl2
          have n1 : (d.nm.toList == d.nm.toList) = true := by simp
          have tok : Tok 2 := .mk _
          go_wp2_with (first
            | ((have _t : Tok 2 := tok); clear _t; clear tok; (have tok : Tok 3 := .mk _); go_at_call 15; refine KC.out.mono ?_; rintro e w3 ⟨rfl, hx⟩; (have hE2 := mkHid (hEw.out.trans hx)); clear hx)
            | ((have _t : Tok 3 := tok); clear _t; clear tok; (have tok : Tok 4 := .mk _); go_at_call 16; refine (KR.out _ hE2.out).mono ?_; rintro e w4 ⟨p, q, rfl, -, -, hx⟩; (have hE3 := hE2.out.trans hx);
                (obtain ⟨w5, hw5⟩ : ∃ w5, w5 = (w4.alloc (.cells #[.string ⟨#[]⟩, .int .u8 0, .bool false, .slice none 0 0, .bool false, .slice none 0 0, .bool false, .slice none 0 0, .bool false, .slice none 0 0, .int .i64 0] 56)).setRow w4.heap.size #[.string d.nm, .int .u8 d.kd, .bool p.b1, .slice p.a1 p.n1 p.c1, .bool p.b2, .slice p.a2 p.n2 p.c2, .bool q.b1, .slice q.a1 q.n1 q.c1, .bool q.b2, .slice q.a2 q.n2 q.c2, .int .i64 d.co] := ⟨_, rfl⟩);
                (have zn := heap_alloc_new w4 (.cells #[.string ⟨#[]⟩, .int .u8 0, .bool false, .slice none 0 0, .bool false, .slice none 0 0, .bool false, .slice none 0 0, .bool false, .slice none 0 0, .int .i64 0] 56));
                (have z5 := mkHid (show w5.heap[w4.heap.size]? = some (.cells #[.string d.nm, .int .u8 d.kd, .bool p.b1, .slice p.a1 p.n1 p.c1, .bool p.b2, .slice p.a2 p.n2 p.c2, .bool q.b1, .slice q.a1 q.n1 q.c1, .bool q.b2, .slice q.a2 q.n2 q.c2, .int .i64 d.co] 56 (0, 0)) by rw [hw5]; exact setRow_heap _ _ _ _ _ _ zn));
                (have hE5 := mkHid (show Ext w w5 by rw [hw5]; exact (hE3.al _).row (Nat.le_trans (hE3.size) (Nat.le_refl _)) _)); replace hw5 := mkHid hw5; replace zn := mkHid zn; clear hx hE3)
            | ((have _t : Tok 4 := tok); clear _t; clear tok; (have tok : Tok 5 := .mk _); refine wpList_store_row rfl 56 (.tmp 9) (.tmp 31) rfl w4.heap.size #[.string d.nm, .int .u8 d.kd, .bool p.b1, .slice p.a1 p.n1 p.c1, .bool p.b2, .slice p.a2 p.n2 p.c2, .bool q.b1, .slice q.a1 q.n1 q.c1, .bool q.b2, .slice q.a2 q.n2 q.c2, .int .i64 d.co] rfl rfl 56 _ zn.out (by kernel_rfl) rfl (by kernel_rfl) ?_; rw [← hw5.out]; (have c0 : w5.cell? ⟨w4.heap.size, 0, none⟩ = some (.string d.nm) := row16_cells z5.out 0)))
          go_ret3
          exact .inr ⟨by decide, rfl, hE5.out⟩
      | full t r d hcut KR hb h64 =>
        obtain ⟨C1, hC1⟩ : ∃ C1 : ByteArray, C1 = ⟨t.toArray⟩ := ⟨_, rfl⟩
        obtain ⟨C2, hC2⟩ : ∃ C2 : ByteArray, C2 = ⟨r.toArray⟩ := ⟨_, rfl⟩
        have hCne : C.toList ≠ [] := by
          rw [cl]
          intro e
          rw [e] at hcut
          cases hcut
        obtain ⟨f1, f2, f3⟩ := empty_facts (l := C.toList) (b := false) (decide_eq_false hCne)
        have KC := cut_hit 10 C w2 (by omega) (hM.out _ hEw) (by rw [hC]; exact hcut)
        rw [← hC1, ← hC2] at KC
        rw [← hC1] at KR
        replace KC := mkHid KC
        replace KR := mkHid KR
        replace hEw := mkHid hEw
        clear hC1 hC2 hCne hcut hC cl cs hcat hmap
        rw [← hL] at hb
        obtain ⟨n1, n2, n3, n4⟩ := name_cmp (a := L) (b := d.nm) hb
        have hk64 : (64 : Int) ≤ (ds.length : Int) := by omega
        clear hL hsz hb
        have tok : Tok 2 := .mk _
        go_wp2_with (first
          | ((have _t : Tok 2 := tok); clear _t; clear tok; (have tok : Tok 3 := .mk _); go_at_call 15; refine KC.out.mono ?_; rintro e w3 ⟨rfl, hx⟩; (have hE2 := mkHid (hEw.out.trans hx)); clear hx)
          | ((have _t : Tok 3 := tok); clear _t; clear tok; (have tok : Tok 4 := .mk _); go_at_call 16; refine (KR.out _ hE2.out).mono ?_; rintro e w4 ⟨p, q, rfl, -, -, hx⟩; (have hE3 := hE2.out.trans hx);
              (obtain ⟨w5, hw5⟩ : ∃ w5, w5 = (w4.alloc (.cells #[.string ⟨#[]⟩, .int .u8 0, .bool false, .slice none 0 0, .bool false, .slice none 0 0, .bool false, .slice none 0 0, .bool false, .slice none 0 0, .int .i64 0] 56)).setRow w4.heap.size #[.string d.nm, .int .u8 d.kd, .bool p.b1, .slice p.a1 p.n1 p.c1, .bool p.b2, .slice p.a2 p.n2 p.c2, .bool q.b1, .slice q.a1 q.n1 q.c1, .bool q.b2, .slice q.a2 q.n2 q.c2, .int .i64 d.co] := ⟨_, rfl⟩);
              (have zn := heap_alloc_new w4 (.cells #[.string ⟨#[]⟩, .int .u8 0, .bool false, .slice none 0 0, .bool false, .slice none 0 0, .bool false, .slice none 0 0, .bool false, .slice none 0 0, .int .i64 0] 56));
              (have z5 := mkHid (show w5.heap[w4.heap.size]? = some (.cells #[.string d.nm, .int .u8 d.kd, .bool p.b1, .slice p.a1 p.n1 p.c1, .bool p.b2, .slice p.a2 p.n2 p.c2, .bool q.b1, .slice q.a1 q.n1 q.c1, .bool q.b2, .slice q.a2 q.n2 q.c2, .int .i64 d.co] 56 (0, 0)) by rw [hw5]; exact setRow_heap _ _ _ _ _ _ zn));
              (have hE5 := mkHid (show Ext w w5 by rw [hw5]; exact (hE3.al _).row (Nat.le_trans (hE3.size) (Nat.le_refl _)) _)); replace hw5 := mkHid hw5; replace zn := mkHid zn; clear hx hE3)
          | ((have _t : Tok 4 := tok); clear _t; clear tok; (have tok : Tok 5 := .mk _); refine wpList_store_row rfl 56 (.tmp 9) (.tmp 31) rfl w4.heap.size #[.string d.nm, .int .u8 d.kd, .bool p.b1, .slice p.a1 p.n1 p.c1, .bool p.b2, .slice p.a2 p.n2 p.c2, .bool q.b1, .slice q.a1 q.n1 q.c1, .bool q.b2, .slice q.a2 q.n2 q.c2, .int .i64 d.co] rfl rfl 56 _ zn.out (by kernel_rfl) rfl (by kernel_rfl) ?_; rw [← hw5.out]; (have c0 : w5.cell? ⟨w4.heap.size, 0, none⟩ = some (.string d.nm) := row16_cells z5.out 0)))
        go_ret3
        exact .inr ⟨by decide, rfl, hE5.out⟩
end Go.Proofs.YtjelnmokcpoofaaGreatDoor
namespace Go.Proofs.YtjelnmokcpoofaaGreatDoor
set_option maxRecDepth 100000
open Go Go.RowKit Go.Proofs
/-- A part as it may come in. -/
structure RD where
  nm : ByteArray
  kd : Int
  co : Int
  op : Option Rat
  oq : Option Rat
def goesD (r : RD) : Option PD := match r.op, r.oq with
  | some p, some q => if nameB r.nm.data.toList && mayP r.kd r.co (some p) (some q) then some ⟨r.nm, r.kd, p, q, r.co⟩ else none
  | _, _ => none
def sameN (d : PD) (x : PD) : Bool := x.nm.data.toList == d.nm.data.toList
def stepIn (ins : List PD) (r : RD) : List PD := match goesD r with
  | none => ins
  | some d => if ins.any (sameN d) then ins else if 64 ≤ ins.length then ins else ins ++ [d]
def fillD (rs : List RD) : List PD := rs.foldl stepIn []
theorem fillD_snoc (rs : List RD) (r : RD) : fillD (rs ++ [r]) = stepIn (fillD rs) r := by simp [fillD, List.foldl_append]
theorem find_perm {es : List (PD × Value)} {ins : List PD} (h : (es.map (·.1)).Perm ins) (d : PD) : (findP d.nm es).isSome = ins.any (sameN d) := by
  rw [← h.any_eq, List.any_map]
  unfold findP
  rw [List.isSome_find?]
  rfl
theorem insP_perm (x : PD × Value) : ∀ es : List (PD × Value), (insP x es).Perm (x :: es)
  | [] => by unfold insP; exact List.Perm.refl _
  | y :: r => by
    unfold insP
    split
    · exact List.Perm.refl _
    · exact ((insP_perm x r).cons y).trans (List.Perm.swap ..)
theorem ins_perm {es : List (PD × Value)} {ins : List PD} (h : (es.map (·.1)).Perm ins) (d : PD) (v : Value) : ((insP (d, v) es).map (·.1)).Perm (ins ++ [d]) := by
  refine ((insP_perm (d, v) es).map (·.1)).trans ?_
  rw [List.map_cons]
  exact (h.cons d).trans (List.perm_append_singleton d ins).symm
end Go.Proofs.YtjelnmokcpoofaaGreatDoor
namespace Go.Proofs.YtjelnmokcpoofaaGreatDoor
set_option maxRecDepth 100000
open Go Go.RowKit Go.Proofs
set_option maxHeartbeats 1600000 in
theorem intSize_c (b : Bool) (a : Option Addr) (n c : Nat) (w : World) (hn : n ≤ 140737488355328) :
    Calls Tryz.prog 206 #[.agg #[.bool b, .slice a n c]] w fun e w' => e = .returned (.int .i64 (1 + n)) ∧ Ext w w' := by
  have FE := mkHid ((Ext.refl w).al (.cells #[.bool b, .slice a n c] 50))
  go_enter Tryz.func206, Tryz.ntmps206
  go_wp2_with fail
  go_ret
  exact ⟨by trivial, FE.out⟩
def lowV (n m : Nat) : Int := Int.tdiv ((min (n : Int) 1048576) * (min (m : Int) 1048576)) 16 * 1024
theorem lowV_b (n m : Nat) : 0 ≤ lowV n m ∧ lowV n m ≤ 70368744177664 := by
  unfold lowV
  obtain ⟨x, hx⟩ : ∃ x : Int, x = min (n : Int) 1048576 := ⟨_, rfl⟩
  obtain ⟨y, hy⟩ : ∃ y : Int, y = min (m : Int) 1048576 := ⟨_, rfl⟩
  rw [← hx, ← hy]
  have h1 : 0 ≤ x ∧ x ≤ 1048576 := by omega
  have h2 : 0 ≤ y ∧ y ≤ 1048576 := by omega
  have h3 : 0 ≤ x * y := Int.mul_nonneg h1.1 h2.1
  have h4 : x * y ≤ 1048576 * 1048576 := Int.mul_le_mul h1.2 h2.2 h2.1 (by omega)
  rw [Int.tdiv_eq_ediv_of_nonneg h3]
  omega
theorem low_wrap (n m : Nat) : RowKit.wrap64 (RowKit.wrap64 ((RowKit.wrap64 (min (n : Int) 1048576 * min (m : Int) 1048576)).tdiv 16) * 1024) = lowV n m := by
  have hb := lowV_b n m
  unfold lowV at *
  have h1 : 0 ≤ min (n : Int) 1048576 ∧ min (n : Int) 1048576 ≤ 1048576 := by omega
  have h2 : 0 ≤ min (m : Int) 1048576 ∧ min (m : Int) 1048576 ≤ 1048576 := by omega
  generalize min (n : Int) 1048576 = x at *
  generalize min (m : Int) 1048576 = y at *
  have h3 : 0 ≤ x * y := Int.mul_nonneg h1.1 h2.1
  have h4 : x * y ≤ 1048576 * 1048576 := Int.mul_le_mul h1.2 h2.2 h2.1 (by omega)
  have e : (x * y).tdiv 16 = x * y / 16 := Int.tdiv_eq_ediv_of_nonneg h3
  rw [e] at hb ⊢
  rw [IntWalk.wrap64_in (x * y) (by omega), e, IntWalk.wrap64_in (x * y / 16) (by omega), IntWalk.wrap64_in _ (by omega)]
set_option maxHeartbeats 1600000 in
theorem lowest_c (b b' : Bool) (a a' : Option Addr) (n c n' c' : Nat) (w : World) (_hn : n ≤ 140737488355328) (_hn' : n' ≤ 140737488355328) :
    Calls Tryz.prog 167 #[.agg #[.bool b, .slice a n c], .agg #[.bool b', .slice a' n' c']] w fun e w' => e = .returned (.int .i64 (lowV n n')) ∧ Ext w w' := by
  have FE := mkHid (((Ext.refl w).al (.cells #[.bool b, .slice a n c] 50)).al (.cells #[.bool b', .slice a' n' c'] 50))
  go_enter Tryz.func167, Tryz.ntmps167
  go_wp2_with fail
  go_ret
  exact ⟨ret1_eq (low_wrap n n'), FE.out⟩
set_option maxHeartbeats 1600000 in
theorem fracSize_c (b b' : Bool) (a a' : Option Addr) (n c n' c' : Nat) (w : World) (hn : n ≤ 140737488355328) (hn' : n' ≤ 140737488355328) :
    Calls Tryz.prog 166 #[.agg #[.bool b, .slice a n c, .bool b', .slice a' n' c']] w fun e w' => e = .returned (.int .i64 (1 + n + (1 + n'))) ∧ Ext w w' := by
  have k1 := mkHid (fun w => intSize_c b a n c w hn)
  have k2 := mkHid (fun w => intSize_c b' a' n' c' w hn')
  go_enter Tryz.func166, Tryz.ntmps166
  go_wp2_with fail
  obtain ⟨wb, hwb⟩ : ∃ wb, wb = w.alloc (.cells #[.bool b, .slice a n c, .bool b', .slice a' n' c'] 52) := ⟨_, rfl⟩
  have hE : Ext w wb := by rw [hwb]; exact (Ext.refl w).al _
  have c0 : ∀ W, Ext wb W → W.cell? ⟨w.heap.size, 0, none⟩ = some (.bool b) := fun W e => e.cell (by rw [hwb]; go_simp)
  have c1 : ∀ W, Ext wb W → W.cell? ⟨w.heap.size, 1, none⟩ = some (.slice a n c) := fun W e => e.cell (by rw [hwb]; go_simp)
  have c2 : ∀ W, Ext wb W → W.cell? ⟨w.heap.size, 2, none⟩ = some (.bool b') := fun W e => e.cell (by rw [hwb]; go_simp)
  have c3 : ∀ W, Ext wb W → W.cell? ⟨w.heap.size, 3, none⟩ = some (.slice a' n' c') := fun W e => e.cell (by rw [hwb]; go_simp)
  rw [← hwb]
  replace hE := mkHid hE
  clear hwb
  apply region_ext [.val _, .val _, .val (.int .i64 (1 + n)), .val _, .val _, .val (.int .i64 (1 + n')), .val (.int .i64 (1 + n + (1 + n')))] (by kernel_rfl) (stable_vals _ (stable_vals _ (stable_vals _ (stable_vals _ (stable_vals _ (stable_vals _ (stable_vals _ trivial)))))))
  iterate 2 (refine ⟨fun W hW _ => by go_simp; exact ⟨Ext.refl _, rfl⟩, ?_⟩)
  refine ⟨fun W hW _ => ?g2, ?_⟩
  case g2 =>
    go_simp
    refine (k1.out W).mono ?_
    rintro e w' ⟨rfl, h1⟩
    exact ⟨rfl, h1⟩
  iterate 2 (refine ⟨fun W hW _ => by go_simp; exact ⟨Ext.refl _, rfl⟩, ?_⟩)
  refine ⟨fun W hW _ => ?g5, ⟨fun W hW _ => by go_simp; exact ⟨Ext.refl _, by rw [IntKind.wrap_i64]; omega⟩, ?_⟩⟩
  case g5 =>
    go_simp
    refine (k2.out W).mono ?_
    rintro e w' ⟨rfl, h1⟩
    exact ⟨rfl, h1⟩
  intro W hW _
  clear c0 c1 c2 c3
  replace hE := mkHid (hE.out.trans hW)
  clear hW
  go_simp
  go_wp2_with fail
  go_ret
  exact ⟨by trivial, hE.out⟩
/-- What a fraction of these lengths costs. -/
def costV (n n' : Nat) : Int := 1 + n + (1 + n') + lowV n n'
set_option maxHeartbeats 1600000 in
theorem fracCost_c (b b' : Bool) (a a' : Option Addr) (n c n' c' : Nat) (w : World) (hn : n ≤ 140737488355328) (hn' : n' ≤ 140737488355328) :
    Calls Tryz.prog 108 #[.agg #[.bool b, .slice a n c, .bool b', .slice a' n' c']] w fun e w' => e = .returned (.int .i64 (costV n n')) ∧ Ext w w' := by
  have k1 := mkHid (fun w => fracSize_c b b' a a' n c n' c' w hn hn')
  have k2 := mkHid (fun w => lowest_c b b' a a' n c n' c' w hn hn')
  obtain ⟨S, hS⟩ : ∃ S : Int, S = 1 + n + (1 + n') := ⟨_, rfl⟩
  have hb := lowV_b n n'
  unfold costV
  rw [← hS] at k1
  rw [← hS]
  generalize lowV n n' = L at *
  have hS0 : 0 ≤ S ∧ S ≤ 562949953421312 := by omega
  clear hS hn hn'
  obtain ⟨hb1, hb2⟩ := hb
  obtain ⟨hS1, hS2⟩ := hS0
  go_enter Tryz.func108, Tryz.ntmps108
  go_wp2_with fail
  obtain ⟨wb, hwb⟩ : ∃ wb, wb = w.alloc (.cells #[.bool b, .slice a n c, .bool b', .slice a' n' c'] 52) := ⟨_, rfl⟩
  have hE : Ext w wb := by rw [hwb]; exact (Ext.refl w).al _
  have c0 : ∀ W, Ext wb W → W.cell? ⟨w.heap.size, 0, none⟩ = some (.bool b) := fun W e => e.cell (by rw [hwb]; go_simp)
  have c1 : ∀ W, Ext wb W → W.cell? ⟨w.heap.size, 1, none⟩ = some (.slice a n c) := fun W e => e.cell (by rw [hwb]; go_simp)
  have c2 : ∀ W, Ext wb W → W.cell? ⟨w.heap.size, 2, none⟩ = some (.bool b') := fun W e => e.cell (by rw [hwb]; go_simp)
  have c3 : ∀ W, Ext wb W → W.cell? ⟨w.heap.size, 3, none⟩ = some (.slice a' n' c') := fun W e => e.cell (by rw [hwb]; go_simp)
  rw [← hwb]
  replace hE := mkHid hE
  clear hwb
  apply region_ext [.val _, .val (.int .i64 S), .val _, .val _, .val _, .val _, .val (.int .i64 L), .val (.int .i64 (S + L))] (by kernel_rfl) (stable_vals _ (stable_vals _ (stable_vals _ (stable_vals _ (stable_vals _ (stable_vals _ (stable_vals _ (stable_vals _ trivial))))))))
  refine ⟨fun W hW _ => by go_simp; exact ⟨Ext.refl _, rfl⟩, ⟨fun W hW _ => ?g1, ?_⟩⟩
  case g1 =>
    go_simp
    refine (k1.out W).mono ?_
    rintro e w' ⟨rfl, h1⟩
    exact ⟨rfl, h1⟩
  iterate 4 (refine ⟨fun W hW _ => by go_simp; exact ⟨Ext.refl _, rfl⟩, ?_⟩)
  refine ⟨fun W hW _ => ?g5, ⟨fun W hW _ => by go_simp; exact ⟨Ext.refl _, by rw [IntKind.wrap_i64]; omega⟩, ?_⟩⟩
  case g5 =>
    go_simp
    refine (k2.out W).mono ?_
    rintro e w' ⟨rfl, h1⟩
    exact ⟨rfl, h1⟩
  intro W hW _
  clear c0 c1 c2 c3
  replace hE := mkHid (hE.out.trans hW)
  clear hW
  go_simp
  go_wp2_with fail
  go_ret
  exact ⟨by trivial, hE.out⟩
end Go.Proofs.YtjelnmokcpoofaaGreatDoor
namespace Go.Proofs.YtjelnmokcpoofaaGreatDoor
set_option maxRecDepth 100000
open Go Go.RowKit Go.Proofs
theorem costV_b (n m : Nat) (hn : n ≤ 140737488355328) (hm : m ≤ 140737488355328) : 0 ≤ costV n m ∧ costV n m ≤ 562949953421312 ∧ (n : Int) ≤ costV n m ∧ (m : Int) ≤ costV n m := by
  have := lowV_b n m
  unfold costV
  omega

/-- What Beyond answers: 'false' only of what is small enough. -/
def ByV (s : Int) (v : Value) : Prop := ∃ r, v = .bool r ∧ (r = false → s ≤ 1048576)
set_option maxHeartbeats 1600000 in
theorem beyond1_c (g cap : Nat) (x : Int) (w : World) (h0 : 0 ≤ x) (h1 : x ≤ 4503599627370496) (hc : w.cell? ⟨g, 0, none⟩ = some (.int .i64 x)) :
    Calls Tryz.prog 5 #[.slice (some ⟨g, 0, none⟩) 1 cap] w fun e w' => ∃ v, e = .returned v ∧ Ext w w' ∧ ByV x v := by
  have FE := mkHid (Ext.refl w)
  by_cases hx : 1048576 < x
  · have hb : ByV x (.bool true) := ⟨true, rfl, fun h => by cases h⟩
    replace hb := mkHid hb
    go_enter Tryz.func5, Tryz.ntmps5
    go_wp2_with fail
    refine wp_loop_rounds 2 ?_
    rw [rounds_succ]
    go_wp2_with fail
    go_ret
    exact ⟨_, rfl, FE.out, hb.out⟩
  · have hb : ByV x (.bool false) := ⟨false, rfl, fun _ => by omega⟩
    replace hb := mkHid hb
    go_enter Tryz.func5, Tryz.ntmps5
    go_wp2_with fail
    refine wp_loop_rounds 2 ?_
    rw [rounds_succ]
    go_wp2_with fail
    rw [rounds_succ]
    go_wp2_with fail
    go_ret
    exact ⟨_, rfl, FE.out, hb.out⟩
end Go.Proofs.YtjelnmokcpoofaaGreatDoor
namespace Go.Proofs.YtjelnmokcpoofaaGreatDoor
set_option maxRecDepth 100000
open Go Go.RowKit Go.Proofs
/-- A value of api.Frac with limbs of whatever number. -/
def RawF (w : World) (v : Value) : Prop :=
  ∃ b1 a1 c1 b2 a2 c2, ∃ l1 l2 : List Nat, v = .agg #[.bool b1, .slice a1 l1.length c1, .bool b2, .slice a2 l2.length c2] ∧ l1.length ≤ 140737488355328 ∧ l2.length ≤ 140737488355328 ∧
    AnyR w (.agg #[.bool b1, .slice a1 l1.length c1]) b1 l1 ∧ AnyR w (.agg #[.bool b2, .slice a2 l2.length c2]) b2 l2
theorem RawF.opened {w : World} {v : Value} (h : RawF w v) : ∃ b1 a1 n1 c1 b2 a2 n2 c2, v = .agg #[.bool b1, .slice a1 n1 c1, .bool b2, .slice a2 n2 c2] ∧ n1 ≤ 140737488355328 ∧ n2 ≤ 140737488355328 ∧
    (n1 ≤ 4294967296 → n2 ≤ 4294967296 → ∃ o, AnyF w (.agg #[.bool b1, .slice a1 n1 c1, .bool b2, .slice a2 n2 c2]) o) := by
  obtain ⟨b1, a1, c1, b2, a2, c2, l1, l2, h0, h1, h2, h3, h4⟩ := h
  exact ⟨b1, a1, _, c1, b2, a2, _, c2, h0, h1, h2, fun g1 g2 => ⟨_, b1, l1, b2, l2, ⟨a1, c1, a2, c2, rfl, g1, g2, h3, h4⟩, rfl⟩⟩
end Go.Proofs.YtjelnmokcpoofaaGreatDoor
namespace Go.Proofs.YtjelnmokcpoofaaGreatDoor
set_option maxRecDepth 100000
open Go Go.ChangeShapes Go.WideShapes Go.ChangeAt Go.RowKit Go.Joins Go.Deep
theorem cells_u32 : Tryz.prog.cellsOf 140 = 1 := by kernel_rfl
theorem bytes_u32 : Tryz.prog.bytesOf 140 = 4 := by kernel_rfl
theorem cells_bool : Tryz.prog.cellsOf 4 = 1 := by kernel_rfl
theorem cells_mag : Tryz.prog.cellsOf 48 = 1 := by kernel_rfl
theorem cells_int : Tryz.prog.cellsOf 50 = 2 := by kernel_rfl
theorem cells_frac : Tryz.prog.cellsOf 52 = 4 := by kernel_rfl
theorem reach_le : reachBytes ≤ 140737488355328 := Nat.le_trans (Nat.le_of_lt reachBytes_lt) (Nat.le_of_eq (by kernel_rfl))
section
variable {H : Type} {enc : TypeId × Value → H} {w : World} {base : Nat} {spare : Nat → Bool} {held : Bool}
theorem open_mag {fuel : Nat} {cs : List Value} {x : DataW H × List MemPlace} (h : DataW.trod enc Tryz.prog w base spare held fuel 48 cs = some x) :
    ∃ (a : Option Addr) (c : Nat) (l : List Nat), cs = [.slice a l.length c] ∧ OkL l ∧ l.length ≤ c ∧ Row w a (limV l) ∧ ∀ M, (∀ k ∈ x.1.weights Tryz.prog 48, k ≤ M) → l.length * 4 ≤ M := by
  rcases open_slice Tryz.underlying48 h with ⟨rfl, _⟩ | ⟨a, len, cap, m, n, D, Pl, rfl, hb, hl, hm, hmm, rfl, hi⟩
  · exact ⟨none, 0, [], rfl, okL_nil, Nat.le_refl _, row_nil w, fun M _ => by simp⟩
  · have hlm : len ≤ m := by rw [hmm]; split <;> omega
    have hcell : ∀ i, i < len → ∃ b : Nat, b < 4294967296 ∧ w.cell? (a.add i) = some (.int .u32 (b : Int)) := by
      intro i hlt
      obtain ⟨cs', h1, h2⟩ := hi i (by omega)
      obtain ⟨b, rfl, _, hwf⟩ := DataW.trod_int Tryz.underlying140 h2
      rw [cells_u32] at h1
      obtain ⟨_, _, hat⟩ := World.cells?_some h1
      have := hat 0 (by omega)
      have hb2 : 0 ≤ b ∧ b ≤ 4294967295 := by
        have h : IntKind.u32.min ≤ b ∧ b ≤ IntKind.u32.max := by simpa [Lit.wf] using hwf
        have e1 : IntKind.u32.min = 0 := rfl
        have e2 : IntKind.u32.max = 4294967295 := rfl
        omega
      obtain ⟨b', rfl⟩ := Int.eq_ofNat_of_zero_le hb2.1
      refine ⟨b', by omega, ?_⟩
      simpa [Addr.add] using this
    have hlist : (List.range len).map (fun i => match w.cell? (a.add i) with | some (.int _ b) => b.toNat | _ => 0) = (List.range len).map (fun i => match w.cell? (a.add i) with | some (.int _ b) => b.toNat | _ => 0) := rfl
    refine ⟨some a, cap, (List.range len).map (fun i => match w.cell? (a.add i) with | some (.int _ b) => b.toNat | _ => 0), by simp, ?_, by simpa using hl, ?_, ?_⟩
    · intro y hy
      obtain ⟨i, hi', rfl⟩ := List.mem_map.1 hy
      obtain ⟨b, hb1, hb2⟩ := hcell i (List.mem_range.1 hi')
      simp only [hb2]
      simpa using hb1
    · refine ⟨a.block, a.off, fun hne => ?_, fun j hj => ?_⟩
      · have h0 : 0 < len := by
          rcases Nat.eq_zero_or_pos len with h | h
          · subst h; simp [limV] at hne
          · exact h
        obtain ⟨b, _, hb'⟩ := hcell 0 h0
        obtain ⟨bl, of, sp⟩ := a
        have : sp = none := by simpa [Addr.add] using World.cell?_spot hb'
        subst this
        rfl
      · have hj' : j < len := by simpa [limV] using hj
        obtain ⟨b, _, hb'⟩ := hcell j hj'
        have hadd : a.add j = ⟨a.block, a.off + j, none⟩ := by
          obtain ⟨bl, of, sp⟩ := a
          have : sp = none ∨ j ≠ 0 := by
            rcases Nat.eq_zero_or_pos j with h | h
            · subst h
              exact .inl (by simpa [Addr.add] using World.cell?_spot hb')
            · exact .inr (by omega)
          unfold Addr.add
          split
          · rename_i h
            rcases this with h2 | h2
            · simp [h, h2]
            · exact absurd h h2
          · rfl
        rw [← hadd, hb']
        simp [limV, hj', hb']
    · intro M hM
      have := hM ((len + (m - len)) * Tryz.prog.bytesOf 140) (by simp [DataW.weights, Tryz.underlying48])
      rw [bytes_u32] at this
      simp only [List.length_map, List.length_range]
      omega
theorem list_two {α : Type} {l : List α} (h : l.length = 2) : ∃ a b, l = [a, b] := by
  match l, h with
  | [a, b], _ => exact ⟨a, b, rfl⟩
theorem list_four {α : Type} {l : List α} (h : l.length = 4) : ∃ a b c d, l = [a, b, c, d] := by
  match l, h with
  | [a, b, c, d], _ => exact ⟨a, b, c, d, rfl⟩
theorem open_int2 {fuel : Nat} {cs : List Value} {x : DataW H × List MemPlace} (h : DataW.trod enc Tryz.prog w base spare held fuel 50 cs = some x) :
    ∃ (b : Bool) (a : Option Addr) (c : Nat) (l : List Nat), cs = [.bool b, .slice a l.length c] ∧ OkL l ∧ l.length ≤ c ∧ Row w a (limV l) ∧ ∀ M, (∀ k ∈ x.1.weights Tryz.prog 50, k ≤ M) → l.length * 4 ≤ M := by
  obtain ⟨xs, n, _, rfl, hlen, hxl, hf⟩ := DataW.trod_struct Tryz.underlying50 h
  rw [cells_int] at hlen
  obtain ⟨c0, c1, rfl⟩ := list_two hlen
  obtain ⟨y0, y1, rfl⟩ := list_two hxl
  have h0 : DataW.trod enc Tryz.prog w base spare held n 4 (([c0, c1].drop 0).take (Tryz.prog.cellsOf 4)) = some y0 := hf 0 _ rfl
  have h1 : DataW.trod enc Tryz.prog w base spare held n 48 (([c0, c1].drop 1).take (Tryz.prog.cellsOf 48)) = some y1 := hf 1 _ rfl
  rw [cells_bool] at h0
  rw [cells_mag] at h1
  obtain ⟨b, hb, _⟩ := DataW.trod_bool Tryz.underlying4 h0
  obtain ⟨a, c, l, hs, hk, hc, hr, hM⟩ := open_mag h1
  simp at hb hs
  subst hb hs
  refine ⟨b, a, c, l, rfl, hk, hc, hr, fun M h => hM M fun k hk => h k ?_⟩
  simp [DataW.weights, Tryz.underlying50, DataW.weightsEach, hk]
theorem open_frac4 {fuel : Nat} {cs : List Value} {x : DataW H × List MemPlace} (h : DataW.trod enc Tryz.prog w base spare held fuel 52 cs = some x) :
    ∃ v1 v2 v3 v4, cs = [v1, v2, v3, v4] ∧ ∀ M, (∀ k ∈ x.1.weights Tryz.prog 52, k ≤ M) → M ≤ 140737488355328 → RawF w (.agg #[v1, v2, v3, v4]) := by
  obtain ⟨xs, n, _, rfl, hlen, hxl, hf⟩ := DataW.trod_struct Tryz.underlying52 h
  rw [cells_frac] at hlen
  obtain ⟨c0, c1, c2, c3, rfl⟩ := list_four hlen
  obtain ⟨y0, y1, rfl⟩ := list_two hxl
  have h0 : DataW.trod enc Tryz.prog w base spare held n 50 (([c0, c1, c2, c3].drop 0).take (Tryz.prog.cellsOf 50)) = some y0 := hf 0 _ rfl
  have h1 : DataW.trod enc Tryz.prog w base spare held n 50 (([c0, c1, c2, c3].drop 2).take (Tryz.prog.cellsOf 50)) = some y1 := hf 1 _ rfl
  rw [cells_int] at h0 h1
  obtain ⟨b1, a1, m1, l1, hs1, hk1, hc1, hr1, hM1⟩ := open_int2 h0
  obtain ⟨b2, a2, m2, l2, hs2, hk2, hc2, hr2, hM2⟩ := open_int2 h1
  simp at hs1 hs2
  obtain ⟨rfl, rfl⟩ := hs1
  obtain ⟨rfl, rfl⟩ := hs2
  refine ⟨_, _, _, _, rfl, fun M h hM => ?_⟩
  have g1 := hM1 M fun k hk => h k (by simp [DataW.weights, Tryz.underlying52, DataW.weightsEach, hk])
  have g2 := hM2 M fun k hk => h k (by simp [DataW.weights, Tryz.underlying52, DataW.weightsEach, hk])
  exact ⟨b1, a1, m1, b2, a2, m2, l1, l2, rfl, by omega, by omega, ⟨a1, m1, rfl, hk1, hc1, hr1⟩, ⟨a2, m2, rfl, hk2, hc2, hr2⟩⟩
end
end Go.Proofs.YtjelnmokcpoofaaGreatDoor
namespace Go.Proofs.YtjelnmokcpoofaaGreatDoor
set_option maxRecDepth 100000
open Go Go.ChangeShapes Go.WideShapes Go.ChangeAt Go.RowKit Go.Joins Go.Deep
theorem cells_elem : Tryz.prog.cellsOf 54 = 9 := by kernel_rfl
theorem cells_part : Tryz.prog.cellsOf 56 = 11 := by kernel_rfl
theorem cells_kind : Tryz.prog.cellsOf 47 = 1 := by kernel_rfl
theorem cells_str : Tryz.prog.cellsOf 9 = 1 := by kernel_rfl
theorem cells_int64 : Tryz.prog.cellsOf 3 = 1 := by kernel_rfl
theorem list_3 {α : Type} {l : List α} (h : l.length = 3) : ∃ c0 c1 c2, l = [c0, c1, c2] := by
  match l, h with
  | [c0, c1, c2], _ => exact ⟨c0, c1, c2, rfl⟩
theorem list_9 {α : Type} {l : List α} (h : l.length = 9) : ∃ c0 c1 c2 c3 c4 c5 c6 c7 c8, l = [c0, c1, c2, c3, c4, c5, c6, c7, c8] := by
  match l, h with
  | [c0, c1, c2, c3, c4, c5, c6, c7, c8], _ => exact ⟨c0, c1, c2, c3, c4, c5, c6, c7, c8, rfl⟩
theorem list_11 {α : Type} {l : List α} (h : l.length = 11) : ∃ c0 c1 c2 c3 c4 c5 c6 c7 c8 c9 c10, l = [c0, c1, c2, c3, c4, c5, c6, c7, c8, c9, c10] := by
  match l, h with
  | [c0, c1, c2, c3, c4, c5, c6, c7, c8, c9, c10], _ => exact ⟨c0, c1, c2, c3, c4, c5, c6, c7, c8, c9, c10, rfl⟩
section
variable {H : Type} {enc : TypeId × Value → H} {w : World} {base : Nat} {spare : Nat → Bool} {held : Bool}
theorem open_elem {fuel : Nat} {cs : List Value} {x : DataW H × List MemPlace} (h : DataW.trod enc Tryz.prog w base spare held fuel 54 cs = some x) :
    ∃ (kd : Int) (p1 p2 p3 p4 q1 q2 q3 q4 : Value), cs = [.int .u8 kd, p1, p2, p3, p4, q1, q2, q3, q4] ∧ ∀ M, (∀ k ∈ x.1.weights Tryz.prog 54, k ≤ M) → M ≤ 140737488355328 → RawF w (.agg #[p1, p2, p3, p4]) ∧ RawF w (.agg #[q1, q2, q3, q4]) := by
  obtain ⟨xs, n, _, rfl, hlen, hxl, hf⟩ := DataW.trod_struct Tryz.underlying54 h
  rw [cells_elem] at hlen
  obtain ⟨c0, c1, c2, c3, c4, c5, c6, c7, c8, rfl⟩ := list_9 hlen
  obtain ⟨y0, y1, y2, rfl⟩ := list_3 hxl
  have h0 : DataW.trod enc Tryz.prog w base spare held n 47 (([c0, c1, c2, c3, c4, c5, c6, c7, c8].drop 0).take (Tryz.prog.cellsOf 47)) = some y0 := hf 0 _ rfl
  have h1 : DataW.trod enc Tryz.prog w base spare held n 52 (([c0, c1, c2, c3, c4, c5, c6, c7, c8].drop 1).take (Tryz.prog.cellsOf 52)) = some y1 := hf 1 _ rfl
  have h2 : DataW.trod enc Tryz.prog w base spare held n 52 (([c0, c1, c2, c3, c4, c5, c6, c7, c8].drop 5).take (Tryz.prog.cellsOf 52)) = some y2 := hf 2 _ rfl
  rw [cells_kind] at h0
  rw [cells_frac] at h1 h2
  obtain ⟨kd, e0, _, _⟩ := DataW.trod_int Tryz.underlying47 h0
  have e0' : [c0] = [.int .u8 kd] := e0
  simp only [List.cons.injEq, and_true] at e0'
  subst e0'
  obtain ⟨v1, v2, v3, v4, e1, f1⟩ := open_frac4 h1
  have e1' : [c1, c2, c3, c4] = [v1, v2, v3, v4] := e1
  simp only [List.cons.injEq, and_true] at e1'
  obtain ⟨rfl, rfl, rfl, rfl⟩ := e1'
  obtain ⟨v5, v6, v7, v8, e2, f2⟩ := open_frac4 h2
  have e2' : [c5, c6, c7, c8] = [v5, v6, v7, v8] := e2
  simp only [List.cons.injEq, and_true] at e2'
  obtain ⟨rfl, rfl, rfl, rfl⟩ := e2'
  exact ⟨kd, _, _, _, _, _, _, _, _, rfl, fun M h hM => ⟨f1 M (fun k hk => h k (by simp [DataW.weights, Tryz.underlying54, DataW.weightsEach, hk])) hM, f2 M (fun k hk => h k (by simp [DataW.weights, Tryz.underlying54, DataW.weightsEach, hk])) hM⟩⟩
theorem open_part {fuel : Nat} {cs : List Value} {x : DataW H × List MemPlace} (h : DataW.trod enc Tryz.prog w base spare held fuel 56 cs = some x) :
    ∃ (pn : ByteArray) (kd : Int) (p1 p2 p3 p4 q1 q2 q3 q4 : Value) (co : Int), cs = [.string pn, .int .u8 kd, p1, p2, p3, p4, q1, q2, q3, q4, .int .i64 co] ∧ ∀ M, (∀ k ∈ x.1.weights Tryz.prog 56, k ≤ M) → M ≤ 140737488355328 → pn.size ≤ M ∧ RawF w (.agg #[p1, p2, p3, p4]) ∧ RawF w (.agg #[q1, q2, q3, q4]) := by
  obtain ⟨xs, n, _, rfl, hlen, hxl, hf⟩ := DataW.trod_struct Tryz.underlying56 h
  rw [cells_part] at hlen
  obtain ⟨c0, c1, c2, c3, c4, c5, c6, c7, c8, c9, c10, rfl⟩ := list_11 hlen
  obtain ⟨y0, y1, y2, rfl⟩ := list_3 hxl
  have h0 : DataW.trod enc Tryz.prog w base spare held n 9 (([c0, c1, c2, c3, c4, c5, c6, c7, c8, c9, c10].drop 0).take (Tryz.prog.cellsOf 9)) = some y0 := hf 0 _ rfl
  have h1 : DataW.trod enc Tryz.prog w base spare held n 54 (([c0, c1, c2, c3, c4, c5, c6, c7, c8, c9, c10].drop 1).take (Tryz.prog.cellsOf 54)) = some y1 := hf 1 _ rfl
  have h2 : DataW.trod enc Tryz.prog w base spare held n 3 (([c0, c1, c2, c3, c4, c5, c6, c7, c8, c9, c10].drop 10).take (Tryz.prog.cellsOf 3)) = some y2 := hf 2 _ rfl
  rw [cells_str] at h0
  rw [cells_elem] at h1
  rw [cells_int64] at h2
  obtain ⟨pn, e0, hy, _⟩ := DataW.trod_string Tryz.underlying9 h0
  have e0' : [c0] = [.string pn] := e0
  simp only [List.cons.injEq, and_true] at e0'
  subst e0'
  obtain ⟨kd, v1, v2, v3, v4, v5, v6, v7, v8, e1, f1⟩ := open_elem h1
  have e1' : [c1, c2, c3, c4, c5, c6, c7, c8, c9] = [.int .u8 kd, v1, v2, v3, v4, v5, v6, v7, v8] := e1
  simp only [List.cons.injEq, and_true] at e1'
  obtain ⟨rfl, rfl, rfl, rfl, rfl, rfl, rfl, rfl, rfl⟩ := e1'
  obtain ⟨co, e2, _, _⟩ := DataW.trod_int Tryz.underlying3 h2
  have e2' : [c10] = [.int .i64 co] := e2
  simp only [List.cons.injEq, and_true] at e2'
  subst e2'
  exact ⟨pn, kd, _, _, _, _, _, _, _, _, co, rfl, fun M h hM => ⟨h _ (by simp [DataW.weights, Tryz.underlying56, DataW.weightsEach, hy]), f1 M (fun k hk => h k (by simp [DataW.weights, Tryz.underlying56, DataW.weightsEach, hk])) hM⟩⟩
end
end Go.Proofs.YtjelnmokcpoofaaGreatDoor
namespace Go.Proofs.YtjelnmokcpoofaaGreatDoor
set_option maxRecDepth 100000
open Go Go.ChangeShapes Go.WideShapes Go.ChangeAt Go.RowKit Go.Joins Go.Deep
/-- A part as it came in. -/
def RawPart (w : World) (v : Value) : Prop := ∃ (nm : ByteArray) (kd co : Int) (p q : FV), v = .agg #[.string nm, .int .u8 kd, .bool p.b1, .slice p.a1 p.n1 p.c1, .bool p.b2, .slice p.a2 p.n2 p.c2, .bool q.b1, .slice q.a1 q.n1 q.c1, .bool q.b2, .slice q.a2 q.n2 q.c2, .int .i64 co] ∧ nm.size ≤ 140737488355328 ∧ RawF w (.agg #[.bool p.b1, .slice p.a1 p.n1 p.c1, .bool p.b2, .slice p.a2 p.n2 p.c2]) ∧ RawF w (.agg #[.bool q.b1, .slice q.a1 q.n1 q.c1, .bool q.b2, .slice q.a2 q.n2 q.c2])
def cellsV (vs : List Value) : List Value := vs.flatMap fun v => v.cells.toList
theorem cellsV_cons (v : Value) (vs : List Value) : cellsV (v :: vs) = v.cells.toList ++ cellsV vs := List.flatMap_cons
theorem cellsV_append (a b : List Value) : cellsV (a ++ b) = cellsV a ++ cellsV b := List.flatMap_append
def Is11 (vs : List Value) : Prop := ∀ v ∈ vs, ∃ (nm : ByteArray) (kd co : Int) (p q : FV), v = .agg #[.string nm, .int .u8 kd, .bool p.b1, .slice p.a1 p.n1 p.c1, .bool p.b2, .slice p.a2 p.n2 p.c2, .bool q.b1, .slice q.a1 q.n1 q.c1, .bool q.b2, .slice q.a2 q.n2 q.c2, .int .i64 co]
theorem cellsV_len : ∀ {vs : List Value}, Is11 vs → (cellsV vs).length = vs.length * 11
  | [], _ => rfl
  | v :: r, h => by
    obtain ⟨nm, kd, co, p, q, e⟩ := h v (List.mem_cons_self ..)
    have ih := cellsV_len (vs := r) fun y hy => h y (List.mem_cons_of_mem _ hy)
    rw [cellsV_cons, List.length_append, ih, e, List.length_cons]
    show 11 + _ = _
    omega
/-- The cells of one value in the list's row. -/
theorem cellsV_at {vs : List Value} (h : Is11 vs) {i : Nat} (hi : i < vs.length) (j : Nat) (hj : j < 11) : (cellsV vs)[i * 11 + j]? = vs[i].cells[j]? := by
  have e : vs = vs.take i ++ vs[i] :: vs.drop (i + 1) := by rw [← List.drop_eq_getElem_cons hi, List.take_append_drop]
  have h1 : (cellsV (vs.take i)).length = i * 11 := by
    rw [cellsV_len (fun v hv => h v (List.mem_of_mem_take hv)), List.length_take]
    congr 1
    omega
  have hc : vs[i].cells.size = 11 := by
    obtain ⟨nm, kd, co, p, q, e⟩ := h vs[i] (List.getElem_mem hi)
    rw [e]
    rfl
  have hcl : vs[i].cells.toList.length = 11 := by simpa using hc
  have e2 : cellsV vs = cellsV (vs.take i) ++ (vs[i].cells.toList ++ cellsV (vs.drop (i + 1))) := by
    rw [← cellsV_cons, ← cellsV_append, ← e]
  rw [e2, List.getElem?_append_right (by omega), h1, List.getElem?_append_left (by omega)]
  rw [show i * 11 + j - i * 11 = j by omega]
  simp
structure InL (w : World) (s : Value) (vs : List Value) : Prop where
  at' : ∃ a c, s = .slice a vs.length c ∧ vs.length ≤ c ∧ Row w a (cellsV vs)
  len : vs.length ≤ 1099511627776
  raw : ∀ v ∈ vs, RawPart w v
theorem RawPart.shape {w : World} {v : Value} (h : RawPart w v) : ∃ (nm : ByteArray) (kd co : Int) (p q : FV), v = .agg #[.string nm, .int .u8 kd, .bool p.b1, .slice p.a1 p.n1 p.c1, .bool p.b2, .slice p.a2 p.n2 p.c2, .bool q.b1, .slice q.a1 q.n1 q.c1, .bool q.b2, .slice q.a2 q.n2 q.c2, .int .i64 co] := by
  obtain ⟨nm, kd, co, p, q, e, -⟩ := h
  exact ⟨nm, kd, co, p, q, e⟩
theorem InL.is {w : World} {s : Value} {vs : List Value} (h : InL w s vs) : Is11 vs := fun v hv => (h.raw v hv).shape
theorem RawF.shape {w : World} {v : Value} (h : RawF w v) : ∃ f : FV, v = .agg #[.bool f.b1, .slice f.a1 f.n1 f.c1, .bool f.b2, .slice f.a2 f.n2 f.c2] := by
  obtain ⟨b1, a1, c1, b2, a2, c2, l1, l2, e, -⟩ := h
  exact ⟨⟨b1, a1, _, c1, b2, a2, _, c2⟩, e⟩
theorem bytes_part : Tryz.prog.bytesOf 56 = 160 := by kernel_rfl
theorem weightsAll_mem {H : Type} {P : Program} {e : TypeId} : ∀ {l : List (DataW H)} {d : DataW H} {k : Nat}, d ∈ l → k ∈ d.weights P e → k ∈ DataW.weightsAll P e l
  | [], _, _, h, _ => by cases h
  | x :: r, d, k, h, hk => by
    rw [DataW.weightsAll]
    rcases List.mem_cons.1 h with rfl | h
    · exact List.mem_append_left _ hk
    · exact List.mem_append_right _ (weightsAll_mem h hk)
section
variable {H : Type} {enc : TypeId × Value → H} {w : World} {base : Nat} {spare : Nat → Bool} {held : Bool}
theorem open_parts {fuel : Nat} {cs : List Value} {x : DataW H × List MemPlace} (h : DataW.trod enc Tryz.prog w base spare held fuel 27 cs = some x) (M : Nat) (hw : ∀ k ∈ x.1.weights Tryz.prog 27, k ≤ M) (hM : M ≤ 140737488355328) :
    ∃ s vs, cs = [s] ∧ InL w s vs := by
  rcases open_slice Tryz.underlying27 h with ⟨rfl, _⟩ | ⟨a, len, cap, m, n, D, Pl, rfl, hb, hl, hm, hmm, rfl, hi⟩
  · exact ⟨_, [], rfl, ⟨none, 0, rfl, Nat.le_refl _, row_nil w⟩, by simp, fun v hv => by cases hv⟩
  · have hlm : len ≤ m := by rw [hmm]; split <;> omega
    have hwt : len * 160 ≤ M := by
      have := hw ((len + (m - len)) * Tryz.prog.bytesOf 56) (by simp [DataW.weights, Tryz.underlying27])
      rw [bytes_part] at this
      exact Nat.le_trans (Nat.mul_le_mul_right _ (by omega)) this
    have each : ∀ i, i < len → ∃ v, RawPart w v ∧ ∀ j, j < 11 → w.cell? (a.add (i * 11 + j)) = v.cells[j]? := by
      intro i hlt
      obtain ⟨cs', h1, h2⟩ := hi i (by omega)
      obtain ⟨nm, kd, p1, p2, p3, p4, q1, q2, q3, q4, co, rfl, hx⟩ := open_part h2
      rw [cells_part] at h1
      obtain ⟨_, _, hat⟩ := World.cells?_some h1
      have hwi : ∀ k ∈ (D i).weights Tryz.prog 56, k ≤ M := by
        intro k hk
        refine hw k ?_
        have : D i ∈ (List.range len).map D := List.mem_map.2 ⟨i, List.mem_range.2 hlt, rfl⟩
        simp only [DataW.weights, Tryz.underlying27]
        exact List.mem_cons_of_mem _ (List.mem_append_left _ (weightsAll_mem this hk))
      obtain ⟨hs, f1, f2⟩ := hx M hwi hM
      obtain ⟨p, e1⟩ := f1.shape
      obtain ⟨q, e2⟩ := f2.shape
      simp only [Value.agg.injEq, Array.mk.injEq, List.cons.injEq, and_true] at e1 e2
      obtain ⟨rfl, rfl, rfl, rfl⟩ := e1
      obtain ⟨rfl, rfl, rfl, rfl⟩ := e2
      refine ⟨.agg #[.string nm, .int .u8 kd, .bool p.b1, .slice p.a1 p.n1 p.c1, .bool p.b2, .slice p.a2 p.n2 p.c2, .bool q.b1, .slice q.a1 q.n1 q.c1, .bool q.b2, .slice q.a2 q.n2 q.c2, .int .i64 co], ⟨nm, kd, co, p, q, rfl, Nat.le_trans hs hM, f1, f2⟩, fun j hj => ?_⟩
      have := hat j hj
      have hadd : (a.add (i * 11)).add j = a.add (i * 11 + j) := by
        unfold Addr.add
        by_cases h1 : i * 11 = 0 <;> by_cases h2 : j = 0 <;> simp [h1, h2, Nat.add_assoc] <;> omega
      rw [hadd] at this
      rw [this]
      simp [Value.cells]
    obtain ⟨vs, hvl, hve⟩ : ∃ vs : List Value, vs.length = len ∧ ∀ i (h : i < vs.length), RawPart w vs[i] ∧ ∀ j, j < 11 → w.cell? (a.add (i * 11 + j)) = vs[i].cells[j]? := by
      clear hi hl hm hmm hlm hwt hw h
      induction len with
      | zero => exact ⟨[], rfl, fun i h => absurd h (Nat.not_lt_zero _)⟩
      | succ n ih =>
        obtain ⟨vs, h1, h2⟩ := ih (fun i hi => each i (by omega))
        obtain ⟨v, h3, h4⟩ := each n (by omega)
        refine ⟨vs ++ [v], by simp [h1], fun i hi => ?_⟩
        rcases Nat.lt_or_ge i vs.length with h | h
        · rw [List.getElem_append_left h]
          exact h2 i h
        · have : i = n := by simp at hi; omega
          subst this
          rw [List.getElem_append_right h]
          simp only [h1, Nat.sub_self, List.getElem_cons_zero]
          exact ⟨h3, h4⟩
    subst hvl
    have hraw : ∀ v ∈ vs, RawPart w v := fun v hv => by
      obtain ⟨i, hi', rfl⟩ := List.mem_iff_getElem.1 hv
      exact (hve i hi').1
    have his : Is11 vs := fun v hv => (hraw v hv).shape
    have hcell : ∀ j, j < (cellsV vs).length → w.cell? (a.add j) = some ((cellsV vs).getD j undef) := by
      intro j hj
      rw [cellsV_len his] at hj
      have hq : j / 11 < vs.length := by omega
      have hr : j % 11 < 11 := by omega
      have e : j = j / 11 * 11 + j % 11 := by omega
      have h1 := (hve _ hq).2 _ hr
      have h2 := cellsV_at his hq _ hr
      rw [← e] at h1 h2
      rw [h1, ← h2, List.getD_eq_getElem?_getD, List.getElem?_eq_getElem (by rw [cellsV_len his]; exact hj)]
      rfl
    have hspot : (cellsV vs) ≠ [] → a = ⟨a.block, a.off, none⟩ := by
      intro hne
      have h0 : 0 < (cellsV vs).length := List.length_pos_iff.2 hne
      have := hcell 0 h0
      obtain ⟨bl, of, sp⟩ := a
      have : sp = none := by simpa [Addr.add] using World.cell?_spot this
      subst this
      rfl
    refine ⟨_, vs, rfl, ⟨some a, cap, rfl, hl, a.block, a.off, fun hne => by rw [← hspot hne], fun j hj => ?_⟩, by omega, hraw⟩
    have hne : cellsV vs ≠ [] := by intro e; rw [e] at hj; simp at hj
    have hadd : a.add j = ⟨a.block, a.off + j, none⟩ := by
      rw [hspot hne]
      unfold Addr.add
      split
      · rename_i h; simp [h]
      · rfl
    rw [← hadd]
    exact hcell j hj
end
end Go.Proofs.YtjelnmokcpoofaaGreatDoor
namespace Go.Proofs.YtjelnmokcpoofaaGreatDoor
set_option maxRecDepth 100000
open Go Go.RowKit Go.Proofs
theorem fr_load_mid {P : Program} {S : World → Value → Prop} {o : Oper} {a : Act} {W : World} {X : Prop} {c : Prop} {ic : Decidable c} (hw : c) (ty : TypeId) (x : Operand) (ho : o.op = .load ty x)
    (b k : Nat) (hx : a.eval x = .pointer (some ⟨b, k, none⟩)) (cs : List Value) (d : TypeDesc) (hc : W.rangeAt b k cs)
    (hu : P.underlying ty = some d) (hd : d.isRow = true) (hi : (P.info? ty).map (·.size) = some cs.length)
    (h : S W (.agg cs.toArray)) : if c then givesV P S ((execOp a.eval o).run P W) else X := by
  rw [if_pos hw]
  unfold execOp
  simp only [ho, hx, Instr.loadAt, Instr.sureAddr, Sem.run_bind, Sem.run_pure, Result.andThen_ok, run_loadVar_mid W b k ty cs d hc hu hd hi]
  exact h
theorem rangeAt_ext {w w' : World} {b o : Nat} {cs : List Value} (h : w.rangeAt b o cs) (e : Ext w w') : w'.rangeAt b o cs := fun j v hv => e.cell (h j v hv)
theorem rangeAt_sub {w : World} {b o : Nat} {cs : List Value} (h : w.rangeAt b o cs) (k n : Nat) : w.rangeAt b (o + k) ((cs.drop k).take n) := fun j v hv => by
  have h1 : cs[k + j]? = some v := by
    rw [List.getElem?_take] at hv
    split at hv
    · rwa [List.getElem?_drop] at hv
    · cases hv
  have := h (k + j) v h1
  rwa [← Nat.add_assoc] at this
/-- One part of a list that came in. -/
theorem InL.get {w : World} {s : Value} {vs : List Value} (h : InL w s vs) {k : Nat} (hk : k < vs.length) : ∃ b o c, s = .slice (some ⟨b, o, none⟩) vs.length c ∧ vs.length ≤ c ∧ w.rangeAt b (o + k * 11) vs[k].cells.toList := by
  obtain ⟨a, c, rfl, hc, b, o, ha, hr⟩ := h.at'
  have hl := cellsV_len h.is
  have hne : cellsV vs ≠ [] := by intro e; rw [e, List.length_nil] at hl; omega
  obtain rfl := ha hne
  refine ⟨b, o, c, rfl, hc, fun j v hv => ?_⟩
  have hcl : vs[k].cells.toList.length = 11 := by
    obtain ⟨nm, kd, co, p, q, e⟩ := h.is vs[k] (List.getElem_mem hk)
    rw [e]
    rfl
  have hj : j < 11 := by have := (List.getElem?_eq_some_iff.1 hv).1; omega
  have h1 := hr (k * 11 + j) (by omega)
  have h2 := cellsV_at h.is hk j hj
  rw [List.getD_eq_getElem?_getD, h2] at h1
  have h3 : vs[k].cells[j]? = some v := by simpa using hv
  rw [h3] at h1
  rw [Nat.add_assoc]
  exact h1
theorem InL.ext {w w' : World} {s : Value} {vs : List Value} (h : InL w s vs) (e : Ext w w') : InL w' s vs := by
  obtain ⟨⟨a, c, h1, h2, h3⟩, hl, hr⟩ := h
  refine ⟨⟨a, c, h1, h2, h3.ext e⟩, hl, fun v hv => ?_⟩
  obtain ⟨nm, kd, co, p, q, e0, hs, f1, f2⟩ := hr v hv
  have go : ∀ {u : Value}, RawF w u → RawF w' u := by
    rintro u ⟨b1, a1, c1, b2, a2, c2, l1, l2, g0, g1, g2, g3, g4⟩
    exact ⟨b1, a1, c1, b2, a2, c2, l1, l2, g0, g1, g2, g3.ext e, g4.ext e⟩
  exact ⟨nm, kd, co, p, q, e0, hs, go f1, go f2⟩
theorem InL.slice {w : World} {s : Value} {vs : List Value} (h : InL w s vs) : ∃ a c, s = .slice a vs.length c ∧ vs.length ≤ c := by
  obtain ⟨a, c, h1, h2, -⟩ := h.at'
  exact ⟨a, c, h1, h2⟩
end Go.Proofs.YtjelnmokcpoofaaGreatDoor
namespace Go.Proofs.YtjelnmokcpoofaaGreatDoor
set_option maxRecDepth 100000
open Go Go.RowKit Go.Proofs
set_option maxHeartbeats 1600000 in
theorem put_name (p q : FV) (nm : ByteArray) (kd co : Int) (op oq : Option Rat) (w : World) (g M : Nat) (es : List (PD × Value)) (h : Cat w g M es) (_h1 : AnyF w (.agg #[.bool p.b1, .slice p.a1 p.n1 p.c1, .bool p.b2, .slice p.a2 p.n2 p.c2]) op) (_h2 : AnyF w (.agg #[.bool q.b1, .slice q.a1 q.n1 q.c1, .bool q.b2, .slice q.a2 q.n2 q.c2]) oq) (hs : nm.size ≤ 9223372036854775807) (hnm : nameB nm.data.toList = false) :
    Calls Tryz.prog 29 #[.pointer (some ⟨g, 0, none⟩), .agg #[.string nm, .int .u8 kd, .bool p.b1, .slice p.a1 p.n1 p.c1, .bool p.b2, .slice p.a2 p.n2 p.c2, .bool q.b1, .slice q.a1 q.n1 q.c1, .bool q.b2, .slice q.a2 q.n2 q.c2, .int .i64 co]] w fun e w' => e = .returned (.int .i64 9) ∧ Ext w w' := by
  obtain ⟨wb, hwb⟩ : ∃ wb, wb = w.alloc (.cells #[.string nm, .int .u8 kd, .bool p.b1, .slice p.a1 p.n1 p.c1, .bool p.b2, .slice p.a2 p.n2 p.c2, .bool q.b1, .slice q.a1 q.n1 q.c1, .bool q.b2, .slice q.a2 q.n2 q.c2, .int .i64 co] 56) := ⟨_, rfl⟩
  have hE : Ext w wb := by rw [hwb]; exact (Ext.refl w).al _
  have z0 : wb.heap[w.heap.size]? = some (.cells #[.string nm, .int .u8 kd, .bool p.b1, .slice p.a1 p.n1 p.c1, .bool p.b2, .slice p.a2 p.n2 p.c2, .bool q.b1, .slice q.a1 q.n1 q.c1, .bool q.b2, .slice q.a2 q.n2 q.c2, .int .i64 co] 56 (0, 0)) := by rw [hwb]; exact heap_alloc_new _ _
  have hC := mkHid (fun W (e : Ext wb W) => h.ext (hE.trans e))
  have hG := mkHid (fun W (e : Ext wb W) => gone_l g M W (h.ext (hE.trans e)).str)
  have hN := fun W => named_c nm W hs
  rw [hnm] at hN
  replace hN := mkHid hN
  have c0 : ∀ W, Ext wb W → W.cell? ⟨w.heap.size, 0, none⟩ = some (.string nm) := fun W e => row16_cells (e.blk z0) 0
  replace c0 := mkHid c0
  replace hE := mkHid hE
  replace z0 := mkHid z0
  replace hwb := mkHid hwb
  clear h _h1 _h2 hs hnm
  go_enter Tryz.func29, Tryz.ntmps29
  have tok : Tok 0 := .mk _
  go_wp2_with (first
    | ((have _t : Tok 0 := tok); clear _t; clear tok; (have tok : Tok 1 := .mk _); go_at_call 18; rw [← hwb.out]; refine (hG.out _ (Ext.refl _)).mono ?_; rintro e w1 ⟨rfl, rfl⟩; (have y0 := c0.out _ (Ext.refl _)))
    | ((have _t : Tok 1 := tok); clear _t; clear tok; (have tok : Tok 2 := .mk _); go_at_call 38; refine (hN.out _).mono ?_; rintro e w2 ⟨rfl, hE2⟩; clear y0; replace hE2 := mkHid hE2))
  go_ret
  exact ⟨rfl, hE.out.trans hE2.out⟩
set_option maxHeartbeats 1600000 in
theorem put_arg (p q : FV) (nm : ByteArray) (kd co : Int) (op oq : Option Rat) (w : World) (g M : Nat) (es : List (PD × Value)) (h : Cat w g M es) (h1 : AnyF w (.agg #[.bool p.b1, .slice p.a1 p.n1 p.c1, .bool p.b2, .slice p.a2 p.n2 p.c2]) op) (h2 : AnyF w (.agg #[.bool q.b1, .slice q.a1 q.n1 q.c1, .bool q.b2, .slice q.a2 q.n2 q.c2]) oq) (hs : nm.size ≤ 9223372036854775807) (hnm : nameB nm.data.toList = true) (hmy : mayP kd co op oq = false) :
    Calls Tryz.prog 29 #[.pointer (some ⟨g, 0, none⟩), .agg #[.string nm, .int .u8 kd, .bool p.b1, .slice p.a1 p.n1 p.c1, .bool p.b2, .slice p.a2 p.n2 p.c2, .bool q.b1, .slice q.a1 q.n1 q.c1, .bool q.b2, .slice q.a2 q.n2 q.c2, .int .i64 co]] w fun e w' => e = .returned (.int .i64 1) ∧ Ext w w' := by
  obtain ⟨wb, hwb⟩ : ∃ wb, wb = w.alloc (.cells #[.string nm, .int .u8 kd, .bool p.b1, .slice p.a1 p.n1 p.c1, .bool p.b2, .slice p.a2 p.n2 p.c2, .bool q.b1, .slice q.a1 q.n1 q.c1, .bool q.b2, .slice q.a2 q.n2 q.c2, .int .i64 co] 56) := ⟨_, rfl⟩
  have hE : Ext w wb := by rw [hwb]; exact (Ext.refl w).al _
  have z0 : wb.heap[w.heap.size]? = some (.cells #[.string nm, .int .u8 kd, .bool p.b1, .slice p.a1 p.n1 p.c1, .bool p.b2, .slice p.a2 p.n2 p.c2, .bool q.b1, .slice q.a1 q.n1 q.c1, .bool q.b2, .slice q.a2 q.n2 q.c2, .int .i64 co] 56 (0, 0)) := by rw [hwb]; exact heap_alloc_new _ _
  have hC := mkHid (fun W (e : Ext wb W) => h.ext (hE.trans e))
  have hG := mkHid (fun W (e : Ext wb W) => gone_l g M W (h.ext (hE.trans e)).str)
  have hN := fun W => named_c nm W hs
  rw [hnm] at hN
  replace hN := mkHid hN
  have c0 : ∀ W, Ext wb W → W.cell? ⟨w.heap.size, 0, none⟩ = some (.string nm) := fun W e => row16_cells (e.blk z0) 0
  replace c0 := mkHid c0
  replace hE := mkHid hE
  replace z0 := mkHid z0
  replace hwb := mkHid hwb
  have hY := fun W (e : Ext wb W) => may_v nm kd co p q op oq W (h1.ext (hE.out.trans e)) (h2.ext (hE.out.trans e))
  rw [hmy] at hY
  replace hY := mkHid hY
  clear h h1 h2 hs hnm hmy
  go_enter Tryz.func29, Tryz.ntmps29
  have tok : Tok 0 := .mk _
  go_wp2_with (first
    | ((have _t : Tok 0 := tok); clear _t; clear tok; (have tok : Tok 1 := .mk _); go_at_call 18; rw [← hwb.out]; refine (hG.out _ (Ext.refl _)).mono ?_; rintro e w1 ⟨rfl, rfl⟩; (have y0 := c0.out _ (Ext.refl _)))
    | ((have _t : Tok 1 := tok); clear _t; clear tok; (have tok : Tok 2 := .mk _); go_at_call 38; refine (hN.out _).mono ?_; rintro e w2 ⟨rfl, hE2⟩; clear y0; replace hE2 := mkHid hE2)
    | ((have _t : Tok 2 := tok); clear _t; clear tok; (have tok : Tok 3 := .mk _); refine wpList_load_row (by rfl) 56 (.tmp 3) rfl w.heap.size rfl 56 #[.string nm, .int .u8 kd, .bool p.b1, .slice p.a1 p.n1 p.c1, .bool p.b2, .slice p.a2 p.n2 p.c2, .bool q.b1, .slice q.a1 q.n1 q.c1, .bool q.b2, .slice q.a2 q.n2 q.c2, .int .i64 co] (0, 0) _ (hE2.out.blk z0.out) Tryz.underlying56 rfl (by kernel_rfl) ?_)
    | ((have _t : Tok 3 := tok); clear _t; clear tok; (have tok : Tok 4 := .mk _); go_at_call 40; refine (hY.out _ hE2.out).mono ?_; rintro e w3 ⟨rfl, hx⟩; replace hE2 := mkHid (hE2.out.trans hx); clear hx))
  go_ret
  exact ⟨rfl, hE.out.trans hE2.out⟩
set_option maxHeartbeats 1600000 in
theorem put_twice (p q : FV) (nm : ByteArray) (kd co : Int) (op oq : Option Rat) (w : World) (g M : Nat) (es : List (PD × Value)) (h : Cat w g M es) (h1 : AnyF w (.agg #[.bool p.b1, .slice p.a1 p.n1 p.c1, .bool p.b2, .slice p.a2 p.n2 p.c2]) op) (h2 : AnyF w (.agg #[.bool q.b1, .slice q.a1 q.n1 q.c1, .bool q.b2, .slice q.a2 q.n2 q.c2]) oq) (hs : nm.size ≤ 9223372036854775807) (hnm : nameB nm.data.toList = true) (hmy : mayP kd co op oq = true) (x : PD × Value) (hf : findP nm es = some x) :
    Calls Tryz.prog 29 #[.pointer (some ⟨g, 0, none⟩), .agg #[.string nm, .int .u8 kd, .bool p.b1, .slice p.a1 p.n1 p.c1, .bool p.b2, .slice p.a2 p.n2 p.c2, .bool q.b1, .slice q.a1 q.n1 q.c1, .bool q.b2, .slice q.a2 q.n2 q.c2, .int .i64 co]] w fun e w' => e = .returned (.int .i64 10) ∧ Ext w w' := by
  obtain ⟨dx, vx⟩ := x
  have hx : (dx, vx) ∈ es := List.mem_of_find?_eq_some hf
  obtain ⟨px, qx, e0, -, -⟩ := (h.part _ hx).fv
  have e0' : vx = .agg #[.string dx.nm, .int .u8 dx.kd, .bool px.b1, .slice px.a1 px.n1 px.c1, .bool px.b2, .slice px.a2 px.n2 px.c2, .bool qx.b1, .slice qx.a1 qx.n1 qx.c1, .bool qx.b2, .slice qx.a2 qx.n2 qx.c2, .int .i64 dx.co] := e0
  subst e0'
  obtain ⟨wb, hwb⟩ : ∃ wb, wb = w.alloc (.cells #[.string nm, .int .u8 kd, .bool p.b1, .slice p.a1 p.n1 p.c1, .bool p.b2, .slice p.a2 p.n2 p.c2, .bool q.b1, .slice q.a1 q.n1 q.c1, .bool q.b2, .slice q.a2 q.n2 q.c2, .int .i64 co] 56) := ⟨_, rfl⟩
  have hE : Ext w wb := by rw [hwb]; exact (Ext.refl w).al _
  have z0 : wb.heap[w.heap.size]? = some (.cells #[.string nm, .int .u8 kd, .bool p.b1, .slice p.a1 p.n1 p.c1, .bool p.b2, .slice p.a2 p.n2 p.c2, .bool q.b1, .slice q.a1 q.n1 q.c1, .bool q.b2, .slice q.a2 q.n2 q.c2, .int .i64 co] 56 (0, 0)) := by rw [hwb]; exact heap_alloc_new _ _
  have hC := mkHid (fun W (e : Ext wb W) => h.ext (hE.trans e))
  have hG := mkHid (fun W (e : Ext wb W) => gone_l g M W (h.ext (hE.trans e)).str)
  have hN := fun W => named_c nm W hs
  rw [hnm] at hN
  replace hN := mkHid hN
  have c0 : ∀ W, Ext wb W → W.cell? ⟨w.heap.size, 0, none⟩ = some (.string nm) := fun W e => row16_cells (e.blk z0) 0
  replace c0 := mkHid c0
  replace hE := mkHid hE
  replace z0 := mkHid z0
  replace hwb := mkHid hwb
  have hY := fun W (e : Ext wb W) => may_v nm kd co p q op oq W (h1.ext (hE.out.trans e)) (h2.ext (hE.out.trans e))
  rw [hmy] at hY
  replace hY := mkHid hY
  have cg : ∀ W, Ext wb W → W.cell? ⟨g, 0, none⟩ = some (.map (some M)) := fun W e => cell0 (hC.out W e).str
  replace cg := mkHid cg
  have hL : ∀ W, Ext wb W → (Instr.lookup 59 (.map (some M)) (.string nm) true).run Tryz.prog W = .ok (.tuple #[.agg #[.string dx.nm, .int .u8 dx.kd, .bool px.b1, .slice px.a1 px.n1 px.c1, .bool px.b2, .slice px.a2 px.n2 px.c2, .bool qx.b1, .slice qx.a1 qx.n1 qx.c1, .bool qx.b2, .slice qx.a2 qx.n2 qx.c2, .int .i64 dx.co], .bool true]) W := fun W e => by
    have := (hC.out W e).map.look nm hs
    rw [hf] at this
    exact this
  replace hL := mkHid hL
  clear h h1 h2 hs hnm hmy hf hx e0
  go_enter Tryz.func29, Tryz.ntmps29
  have tok : Tok 0 := .mk _
  go_wp2_with (first
    | ((have _t : Tok 0 := tok); clear _t; clear tok; (have tok : Tok 1 := .mk _); go_at_call 18; rw [← hwb.out]; refine (hG.out _ (Ext.refl _)).mono ?_; rintro e w1 ⟨rfl, rfl⟩; (have y0 := c0.out _ (Ext.refl _)))
    | ((have _t : Tok 1 := tok); clear _t; clear tok; (have tok : Tok 2 := .mk _); go_at_call 38; refine (hN.out _).mono ?_; rintro e w2 ⟨rfl, hE2⟩; clear y0; replace hE2 := mkHid hE2)
    | ((have _t : Tok 2 := tok); clear _t; clear tok; (have tok : Tok 3 := .mk _); refine wpList_load_row (by rfl) 56 (.tmp 3) rfl w.heap.size rfl 56 #[.string nm, .int .u8 kd, .bool p.b1, .slice p.a1 p.n1 p.c1, .bool p.b2, .slice p.a2 p.n2 p.c2, .bool q.b1, .slice q.a1 q.n1 q.c1, .bool q.b2, .slice q.a2 q.n2 q.c2, .int .i64 co] (0, 0) _ (hE2.out.blk z0.out) Tryz.underlying56 rfl (by kernel_rfl) ?_)
    | ((have _t : Tok 3 := tok); clear _t; clear tok; (have tok : Tok 4 := .mk _); go_at_call 40; refine (hY.out _ hE2.out).mono ?_; rintro e w3 ⟨rfl, hx⟩; replace hE2 := mkHid (hE2.out.trans hx); clear hx))
  clear tok
  apply Late.region_late Ext [.val (.pointer (some ⟨g, 0, none⟩)), .val (.pointer (some ⟨g, 0, none⟩)), .val (.pointer (some ⟨g, 0, none⟩)), .val (.map (some M)), .val (.pointer (some ⟨w.heap.size, 0, none⟩)), .val (.string nm), .val (.tuple #[.agg #[.string dx.nm, .int .u8 dx.kd, .bool px.b1, .slice px.a1 px.n1 px.c1, .bool px.b2, .slice px.a2 px.n2 px.c2, .bool qx.b1, .slice qx.a1 qx.n1 qx.c1, .bool qx.b2, .slice qx.a2 qx.n2 qx.c2, .int .i64 dx.co], .bool true]), .val (.tuple #[.agg #[.string dx.nm, .int .u8 dx.kd, .bool px.b1, .slice px.a1 px.n1 px.c1, .bool px.b2, .slice px.a2 px.n2 px.c2, .bool qx.b1, .slice qx.a1 qx.n1 qx.c1, .bool qx.b2, .slice qx.a2 qx.n2 qx.c2, .int .i64 dx.co], .bool true]), .val (.agg #[.string dx.nm, .int .u8 dx.kd, .bool px.b1, .slice px.a1 px.n1 px.c1, .bool px.b2, .slice px.a2 px.n2 px.c2, .bool qx.b1, .slice qx.a1 qx.n1 qx.c1, .bool qx.b2, .slice qx.a2 qx.n2 qx.c2, .int .i64 dx.co]), .val (.bool true), .pred (VarAt wb.heap.size #[.string ⟨#[]⟩, .int .u8 0, .bool false, .slice none 0 0, .bool false, .slice none 0 0, .bool false, .slice none 0 0, .bool false, .slice none 0 0, .int .i64 0] 56)] 9 _ 28 (.bool true) mixed (by kernel_rfl) rfl rfl rfl (by kernel_rfl) (by kernel_rfl) (fun _ _ _ h => h)
    (fun a W _ hf => by
      have h7 : a.tmps.getD 19 undef = .tuple #[.agg #[.string dx.nm, .int .u8 dx.kd, .bool px.b1, .slice px.a1 px.n1 px.c1, .bool px.b2, .slice px.a2 px.n2 px.c2, .bool qx.b1, .slice qx.a1 qx.n1 qx.c1, .bool qx.b2, .slice qx.a2 qx.n2 qx.c2, .int .i64 dx.co], .bool true] := hf 7 _ _ _ rfl rfl rfl (by kernel_rfl)
      refine .inl ⟨rfl, fun w => ?_⟩
      simp only [execOp, Act.eval, h7]
      rfl)
    Ext.refl (fun _ _ _ => Ext.trans) (fun w => (Ext.refl w).dr) (stableAll_mem (stable_vals _ (stable_vals _ (stable_vals _ (stable_vals _ (stable_vals _ (stable_vals _ (stable_vals _ (stable_vals _ (stable_vals _ (stable_vals _ (st_varM _ _ _ trivial))))))))))))
  iterate 3 (refine ⟨fun W hW _ => by go_simp; first | exact ⟨Ext.refl _, rfl⟩ | exact Ext.refl _, ?_⟩)
  refine ⟨fun W hW _ => by have := cg.out W (hE2.out.trans hW); go_simp; first | exact ⟨Ext.refl _, rfl⟩ | exact Ext.refl _, ?_⟩
  refine ⟨fun W hW _ => by go_simp; first | exact ⟨Ext.refl _, rfl⟩ | exact Ext.refl _, ?_⟩
  refine ⟨fun W hW _ => by have := c0.out W (hE2.out.trans hW); go_simp; first | exact ⟨Ext.refl _, rfl⟩ | exact Ext.refl _, ?_⟩
  refine ⟨fun W hW _ => by have := hL.out W (hE2.out.trans hW); go_simp; first | exact ⟨Ext.refl _, rfl⟩ | exact Ext.refl _, ?_⟩
  iterate 3 (refine ⟨fun W hW _ => by go_simp; first | exact ⟨Ext.refl _, rfl⟩ | exact Ext.refl _, ?_⟩)
  refine ⟨fun W hW hF => ?al, fun v10 => fun W hW hF => ?fin⟩
  case al =>
    have hnv := new_var (b := wb.heap.size) (cs := #[.string ⟨#[]⟩, .int .u8 0, .bool false, .slice none 0 0, .bool false, .slice none 0 0, .bool false, .slice none 0 0, .bool false, .slice none 0 0, .int .i64 0]) (T := 56) W (hE2.out.trans hW).size
    replace hnv := mkHid hnv
    go_simp
    exact ⟨hnv.out.1, hnv.out.2.1⟩
  case fin =>
    obtain ⟨gd, rfl, hgb, hgd⟩ := hF.1 rfl
    have hE3 : Ext wb (W.setRow gd #[.string dx.nm, .int .u8 dx.kd, .bool px.b1, .slice px.a1 px.n1 px.c1, .bool px.b2, .slice px.a2 px.n2 px.c2, .bool qx.b1, .slice qx.a1 qx.n1 qx.c1, .bool qx.b2, .slice qx.a2 qx.n2 qx.c2, .int .i64 dx.co]) := (hE2.out.trans hW).row hgb _
    obtain ⟨w4, hw4⟩ : ∃ w4, w4 = W.setRow gd #[.string dx.nm, .int .u8 dx.kd, .bool px.b1, .slice px.a1 px.n1 px.c1, .bool px.b2, .slice px.a2 px.n2 px.c2, .bool qx.b1, .slice qx.a1 qx.n1 qx.c1, .bool qx.b2, .slice qx.a2 qx.n2 qx.c2, .int .i64 dx.co] := ⟨_, rfl⟩
    rw [← hw4] at hE3
    replace hE3 := mkHid hE3
    replace hw4 := mkHid hw4
    replace hgd := mkHid hgd
    clear hF hW hE2
    go_simp
    go_wp2_with (refine wpList_store_row rfl 56 (.tmp 5) (.tmp 27) rfl gd #[.string dx.nm, .int .u8 dx.kd, .bool px.b1, .slice px.a1 px.n1 px.c1, .bool px.b2, .slice px.a2 px.n2 px.c2, .bool qx.b1, .slice qx.a1 qx.n1 qx.c1, .bool qx.b2, .slice qx.a2 qx.n2 qx.c2, .int .i64 dx.co] rfl rfl 56 _ hgd.out (by kernel_rfl) rfl (by kernel_rfl) ?_; rw [← hw4.out])
    go_ret
    exact ⟨rfl, hE.out.trans hE3.out⟩
set_option maxHeartbeats 1600000 in
theorem put_full (p q : FV) (nm : ByteArray) (kd co : Int) (op oq : Option Rat) (w : World) (g M : Nat) (es : List (PD × Value)) (h : Cat w g M es) (h1 : AnyF w (.agg #[.bool p.b1, .slice p.a1 p.n1 p.c1, .bool p.b2, .slice p.a2 p.n2 p.c2]) op) (h2 : AnyF w (.agg #[.bool q.b1, .slice q.a1 q.n1 q.c1, .bool q.b2, .slice q.a2 q.n2 q.c2]) oq) (hs : nm.size ≤ 9223372036854775807) (hnm : nameB nm.data.toList = true) (hmy : mayP kd co op oq = true) (hf : findP nm es = none) (hl : 64 ≤ es.length) :
    Calls Tryz.prog 29 #[.pointer (some ⟨g, 0, none⟩), .agg #[.string nm, .int .u8 kd, .bool p.b1, .slice p.a1 p.n1 p.c1, .bool p.b2, .slice p.a2 p.n2 p.c2, .bool q.b1, .slice q.a1 q.n1 q.c1, .bool q.b2, .slice q.a2 q.n2 q.c2, .int .i64 co]] w fun e w' => e = .returned (.int .i64 12) ∧ Ext w w' := by
  obtain ⟨wb, hwb⟩ : ∃ wb, wb = w.alloc (.cells #[.string nm, .int .u8 kd, .bool p.b1, .slice p.a1 p.n1 p.c1, .bool p.b2, .slice p.a2 p.n2 p.c2, .bool q.b1, .slice q.a1 q.n1 q.c1, .bool q.b2, .slice q.a2 q.n2 q.c2, .int .i64 co] 56) := ⟨_, rfl⟩
  have hE : Ext w wb := by rw [hwb]; exact (Ext.refl w).al _
  have z0 : wb.heap[w.heap.size]? = some (.cells #[.string nm, .int .u8 kd, .bool p.b1, .slice p.a1 p.n1 p.c1, .bool p.b2, .slice p.a2 p.n2 p.c2, .bool q.b1, .slice q.a1 q.n1 q.c1, .bool q.b2, .slice q.a2 q.n2 q.c2, .int .i64 co] 56 (0, 0)) := by rw [hwb]; exact heap_alloc_new _ _
  have hC := mkHid (fun W (e : Ext wb W) => h.ext (hE.trans e))
  have hG := mkHid (fun W (e : Ext wb W) => gone_l g M W (h.ext (hE.trans e)).str)
  have hN := fun W => named_c nm W hs
  rw [hnm] at hN
  replace hN := mkHid hN
  have c0 : ∀ W, Ext wb W → W.cell? ⟨w.heap.size, 0, none⟩ = some (.string nm) := fun W e => row16_cells (e.blk z0) 0
  replace c0 := mkHid c0
  replace hE := mkHid hE
  replace z0 := mkHid z0
  replace hwb := mkHid hwb
  have hY := fun W (e : Ext wb W) => may_v nm kd co p q op oq W (h1.ext (hE.out.trans e)) (h2.ext (hE.out.trans e))
  rw [hmy] at hY
  replace hY := mkHid hY
  have cg : ∀ W, Ext wb W → W.cell? ⟨g, 0, none⟩ = some (.map (some M)) := fun W e => cell0 (hC.out W e).str
  replace cg := mkHid cg
  have hL : ∀ W, Ext wb W → (Instr.lookup 59 (.map (some M)) (.string nm) true).run Tryz.prog W = .ok (.tuple #[zeroPart, .bool false]) W := fun W e => by
    have := (hC.out W e).map.look nm hs
    rw [hf] at this
    exact this
  replace hL := mkHid hL
  clear h h1 h2 hs hnm hmy hf
  go_enter Tryz.func29, Tryz.ntmps29
  have tok : Tok 0 := .mk _
  go_wp2_with (first
    | ((have _t : Tok 0 := tok); clear _t; clear tok; (have tok : Tok 1 := .mk _); go_at_call 18; rw [← hwb.out]; refine (hG.out _ (Ext.refl _)).mono ?_; rintro e w1 ⟨rfl, rfl⟩; (have y0 := c0.out _ (Ext.refl _)))
    | ((have _t : Tok 1 := tok); clear _t; clear tok; (have tok : Tok 2 := .mk _); go_at_call 38; refine (hN.out _).mono ?_; rintro e w2 ⟨rfl, hE2⟩; clear y0; replace hE2 := mkHid hE2)
    | ((have _t : Tok 2 := tok); clear _t; clear tok; (have tok : Tok 3 := .mk _); refine wpList_load_row (by rfl) 56 (.tmp 3) rfl w.heap.size rfl 56 #[.string nm, .int .u8 kd, .bool p.b1, .slice p.a1 p.n1 p.c1, .bool p.b2, .slice p.a2 p.n2 p.c2, .bool q.b1, .slice q.a1 q.n1 q.c1, .bool q.b2, .slice q.a2 q.n2 q.c2, .int .i64 co] (0, 0) _ (hE2.out.blk z0.out) Tryz.underlying56 rfl (by kernel_rfl) ?_)
    | ((have _t : Tok 3 := tok); clear _t; clear tok; (have tok : Tok 4 := .mk _); go_at_call 40; refine (hY.out _ hE2.out).mono ?_; rintro e w3 ⟨rfl, hx⟩; replace hE2 := mkHid (hE2.out.trans hx); clear hx))
  clear tok
  apply Late.region_late Ext [.val (.pointer (some ⟨g, 0, none⟩)), .val (.pointer (some ⟨g, 0, none⟩)), .val (.pointer (some ⟨g, 0, none⟩)), .val (.map (some M)), .val (.pointer (some ⟨w.heap.size, 0, none⟩)), .val (.string nm), .val (.tuple #[zeroPart, .bool false]), .val (.tuple #[zeroPart, .bool false]), .val (zeroPart), .val (.bool false), .pred (VarAt wb.heap.size #[.string ⟨#[]⟩, .int .u8 0, .bool false, .slice none 0 0, .bool false, .slice none 0 0, .bool false, .slice none 0 0, .bool false, .slice none 0 0, .int .i64 0] 56)] 9 _ 28 (.bool false) mixed (by kernel_rfl) rfl rfl rfl (by kernel_rfl) (by kernel_rfl) (fun _ _ _ h => h)
    (fun a W _ hf => by
      have h7 : a.tmps.getD 19 undef = .tuple #[zeroPart, .bool false] := hf 7 _ _ _ rfl rfl rfl (by kernel_rfl)
      refine .inl ⟨rfl, fun w => ?_⟩
      simp only [execOp, Act.eval, h7]
      rfl)
    Ext.refl (fun _ _ _ => Ext.trans) (fun w => (Ext.refl w).dr) (stableAll_mem (stable_vals _ (stable_vals _ (stable_vals _ (stable_vals _ (stable_vals _ (stable_vals _ (stable_vals _ (stable_vals _ (stable_vals _ (stable_vals _ (st_varM _ _ _ trivial))))))))))))
  iterate 3 (refine ⟨fun W hW _ => by go_simp; first | exact ⟨Ext.refl _, rfl⟩ | exact Ext.refl _, ?_⟩)
  refine ⟨fun W hW _ => by have := cg.out W (hE2.out.trans hW); go_simp; first | exact ⟨Ext.refl _, rfl⟩ | exact Ext.refl _, ?_⟩
  refine ⟨fun W hW _ => by go_simp; first | exact ⟨Ext.refl _, rfl⟩ | exact Ext.refl _, ?_⟩
  refine ⟨fun W hW _ => by have := c0.out W (hE2.out.trans hW); go_simp; first | exact ⟨Ext.refl _, rfl⟩ | exact Ext.refl _, ?_⟩
  refine ⟨fun W hW _ => by have := hL.out W (hE2.out.trans hW); go_simp; first | exact ⟨Ext.refl _, rfl⟩ | exact Ext.refl _, ?_⟩
  iterate 3 (refine ⟨fun W hW _ => by go_simp; first | exact ⟨Ext.refl _, rfl⟩ | exact Ext.refl _, ?_⟩)
  refine ⟨fun W hW hF => ?al, fun v10 => fun W hW hF => ?fin⟩
  case al =>
    have hnv := new_var (b := wb.heap.size) (cs := #[.string ⟨#[]⟩, .int .u8 0, .bool false, .slice none 0 0, .bool false, .slice none 0 0, .bool false, .slice none 0 0, .bool false, .slice none 0 0, .int .i64 0]) (T := 56) W (hE2.out.trans hW).size
    replace hnv := mkHid hnv
    go_simp
    exact ⟨hnv.out.1, hnv.out.2.1⟩
  case fin =>
    obtain ⟨gd, rfl, hgb, hgd⟩ := hF.1 rfl
    have hE3 : Ext wb (W.setRow gd #[.string ⟨#[]⟩, .int .u8 0, .bool false, .slice none 0 0, .bool false, .slice none 0 0, .bool false, .slice none 0 0, .bool false, .slice none 0 0, .int .i64 0]) := (hE2.out.trans hW).row hgb _
    obtain ⟨w4, hw4⟩ : ∃ w4, w4 = W.setRow gd #[.string ⟨#[]⟩, .int .u8 0, .bool false, .slice none 0 0, .bool false, .slice none 0 0, .bool false, .slice none 0 0, .bool false, .slice none 0 0, .int .i64 0] := ⟨_, rfl⟩
    rw [← hw4] at hE3
    replace hE3 := mkHid hE3
    replace hw4 := mkHid hw4
    replace hgd := mkHid hgd
    have y1 := cg.out w4 hE3.out
    have y2 := fun ty => (hC.out w4 hE3.out).map.len ty
    have y3 : (64 : Int) ≤ (es.length : Int) := by omega
    clear hl
    clear hF hW hE2
    go_simp
    go_wp2_with (refine wpList_store_row rfl 56 (.tmp 5) (.tmp 27) rfl gd #[.string ⟨#[]⟩, .int .u8 0, .bool false, .slice none 0 0, .bool false, .slice none 0 0, .bool false, .slice none 0 0, .bool false, .slice none 0 0, .int .i64 0] rfl rfl 56 _ hgd.out (by kernel_rfl) rfl (by kernel_rfl) ?_; rw [← hw4.out])
    go_ret
    exact ⟨rfl, hE.out.trans hE3.out⟩
end Go.Proofs.YtjelnmokcpoofaaGreatDoor
