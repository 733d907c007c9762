/-
  law25: CatalogHolds, walked: printed by tools/gen_holds.py. What a row of this seat gives at its first world: the powers of ten, the library's number, a list of parts. CatalogHolds: for every list of parts that comes in the law returns true, and the list reads as it did. The card ties the row's seven listed variables (tables of math/bits, internal/strconv and unicode/utf8, two errors of strconv) to the program's text; of these the proof looks into internal/strconv's powers of ten alone.
-/
import Derived.Test.YtkkfgphcmnhabaaGreatDoorMAM
import Derived.Test.YtkkfgphcmnhabaaGreatDoorMAK
import Derived.Test.YtkkfgphcmnhabaaGreatDoorMAI
import Derived.Test.YtkkfgphcmnhabaaGreatDoorRows
import Derived.Shelf.Vars
import Derived.ProofKit
import Derived.LaidMore
import Derived.OpenShut
import Derived.Lay
import Derived.Stop.Joined
import Derived.Lib.SmallJoins
import Derived.SevenTiedAt
import Derived.Test.YtkkfgphcmnhabaaGreatDoorCards
import Derived.Test.YtkkfgphcmnhabaaGreatDoorTie
namespace Go.Proofs.YtkkfgphcmnhabaaGreatDoor
set_option maxRecDepth 100000
open Go Go.RowKit Go.Proofs
def Stop11 (p : Prop) : Prop := p
theorem Stop11.out {p : Prop} (h : p) : Stop11 p := h
theorem stop11 {p : Prop} (h : Stop11 p) : p := h
/-- A goal that is not looked into (an `obtain` else puts it into its head form, which runs the machine). -/
structure Shut (p : Prop) : Prop where
  open' : p
/-- One element, in a row of its own. -/
def SlE (cs : Array Value) (w : World) (v : Value) : Prop := ∃ b, v = .slice (some ⟨b, 0, none⟩) 1 1 ∧ w.heap[b]? = some (.cells cs 36 (0, 0))
theorem st_slE {ss : List FSpec} (cs : Array Value) (h : StableAll Ext ss) : StableAll Ext (.pred (SlE cs) :: ss) :=
  ⟨fun _ _ _ e ⟨b, h1, h2⟩ => ⟨b, h1, e.blk h2⟩, h⟩
theorem row_fst {os es : List (PD × Value)} (h : os.map (·.1) = es.map (·.1)) {k : Nat} (hk : k < os.length) (hk' : k < es.length) : os[k].1 = es[k].1 := by
  have h1 : (os.map (·.1))[k]'(by simpa using hk) = (es.map (·.1))[k]'(by simpa using hk') := by simp only [h]
  simpa using h1
theorem rising_at {os es : List (PD × Value)} (hr : Rising es) (h : os.map (·.1) = es.map (·.1)) {i j : Nat} (hi : i < os.length) (hj : j < os.length) (hij : i < j) : bytesBefore os[i].1.nm.data.toList os[j].1.nm.data.toList = true := by
  have hl : os.length = es.length := by have := congrArg List.length h; simpa using this
  have := List.pairwise_iff_getElem.1 hr i j (by omega) (by omega) hij
  rw [← row_fst h hi (by omega), ← row_fst h hj (by omega)] at this
  exact this
theorem all_nf {os es : List (PD × Value)} (h : os.map (·.1) = es.map (·.1)) (hok : ∀ x ∈ es, okPD x.1) {y : PD × Value} (hy : y ∈ os) : nf y.1.p ≤ 2048 ∧ nf y.1.q ≤ 2048 := by
  have hm : y.1 ∈ es.map (·.1) := by rw [← h]; exact List.mem_map.2 ⟨y, hy, rfl⟩
  obtain ⟨z, hz, e⟩ := List.mem_map.1 hm
  have := hok z hz
  rw [e] at this
  exact ⟨this.1, this.2.1⟩
/-- The loop that turns the list round. -/
def TurnR (w6 : World) (ins : List (PD × Value)) (t9 t10 : Value) (wr : World) : Prop :=
  ∃ (z : Int) (k : Nat), k ≤ ins.length ∧ t10 = .int .i64 z ∧ z = (k : Int) - 1 ∧ wr.ownsRow w6.heap.size 38 11 t9 (ins.length - k) (cellsP (ins.drop k).reverse) ∧ Ext w6 wr
/-- The loop that drops and puts back. -/
def BackR (w8 : World) (g M : Nat) (n : Nat) (es : List (PD × Value)) (t13 : Value) (wr : World) : Prop :=
  ∃ (k : Nat) (es3 : List (PD × Value)), k ≤ n ∧ t13 = .int .i64 k ∧ Cat wr g M es3 ∧ es3.map (·.1) = es.map (·.1) ∧ Ext w8 wr
theorem turn_step {ins : List (PD × Value)} {j : Nat} (hj : j < ins.length) {d : PD} {v : Value} (h : ins[j] = (d, v)) : cellsP (ins.drop j).reverse = cellsP (ins.drop (j + 1)).reverse ++ v.cells.toList := by
  rw [List.drop_eq_getElem_cons hj, List.reverse_cons, cellsP_append, h]
  simp [cellsP]
set_option maxRecDepth 100000 in
set_option maxHeartbeats 6400000 in
/-- **CatalogHolds says so.** -/
theorem holds_c (s : Value) (vs : List Value) (w : World) (h : InL w s vs) (hm : Max0 w) (ht : Tab10 w) :
    Calls Tryz.prog 3 #[s] w fun e w' => e = .returned (.bool true) ∧ Ext w w' := by
  obtain ⟨i0, hi, hz0', hz1, hz2⟩ := info_parts infoPart
  obtain ⟨a, c, rfl, hca⟩ := h.slice
  have KA := mkHid (fun W (e : Ext w W) => alive25_c W (hm.ext e) (tab_ext ht e))
  have KF := mkHid (fun W (e : Ext w W) => fits_c _ vs W (h.ext e))
  have hL := mkHid (fun W (e : Ext w W) => h.ext e)
  clear h hm ht
  go_enter Tryz.func3, Tryz.ntmps3
  have tok : Tok 0 := .mk _
  go_wp2_with (first
    | ((have _t : Tok 0 := tok); clear _t; clear tok; (have tok : Tok 1 := .mk _); go_at_call 5; refine (KA.out _ (Ext.refl _)).mono ?_; rintro e w1 ⟨rfl, hE1⟩; replace hE1 := mkHid hE1)
    | ((have _t : Tok 1 := tok); clear _t; clear tok; (have tok : Tok 2 := .mk _); go_at_call 6; refine (KF.out _ hE1.out).mono ?_; rintro e w2 ⟨r, rfl, hr, hx⟩; (have hE2 := mkHid (hE1.out.trans hx)); replace hr := mkHid hr; clear hx; refine stop11 ?_))
  cases r with
  | false =>
    unfold Stop11
    clear tok
    have tok : Tok 7 := .mk _
    go_wp2_with (first
      | ((have _t : Tok 7 := tok); clear _t; clear tok; (have tok : Tok 8 := .mk _); go_at_call 5; refine (KA.out _ hE2.out).mono ?_; rintro e w3 ⟨rfl, hx⟩; (have hE3 := mkHid (hE2.out.trans hx)); clear hx))
    go_ret
    exact ⟨rfl, hE3.out⟩
  | true =>
    unfold Stop11
    clear tok
    obtain ⟨hvl, hsm⟩ := hr.out rfl
    obtain ⟨xs, hxs, hD⟩ := inD_of (hL.out w2 hE2.out) hsm
    have hxl : xs.length = vs.length := by rw [← hxs, List.length_map]
    have KFi := mkHid (filled_c _ xs w2 hD (by omega))
    clear hsm hD hxs hxl hvl hL KF KA hr
    have tok : Tok 13 := .mk _
    go_wp2_with (first
      | ((have _t : Tok 13 := tok); clear _t; clear tok; (have tok : Tok 14 := .mk _); go_at_call 7; refine KFi.out.mono ?_; rintro e w3 ⟨g, M, es, ins, s4, rfl, hW, hins⟩; (have hE3 := mkHid (hE2.out.trans hW.ext)); (have hC3 := mkHid hW.cat); (have hpe := mkHid hW.perm); (have hil : ins.length ≤ 64 := by have h1 := hW.perm.length_eq; have h2 := hW.cat.few; simp only [List.length_map] at h1; omega); (have hok := mkHid (fun x hx => (hW.part x hx).2)); (have hI3 := mkHid (rowL_of_owns hW.row (fun x hx => ((hW.part x hx).1.ext hW.ext)))); (obtain ⟨a4, c4, rfl, hc4, -⟩ := row_of_owns11 hW.row); clear hW hins)
      | ((have _t : Tok 14 := tok); clear _t; clear tok; (have tok : Tok 15 := .mk _); go_at_call 8; refine (all_l w3 g M es hC3.out).mono ?_; rintro e w5 ⟨v5, os, rfl, hO, hos, hx⟩; (have hlo : os.length = ins.length := by have h1 := congrArg List.length hos; have h2 := hpe.out.length_eq; simp only [List.length_map] at h1 h2; omega); (have hA5 := hO.rowL); (obtain ⟨a5, c5, rfl, hc5, -⟩ := row_of_owns11 hO.row); rw [hlo] at hA5 hc5 ⊢; replace hA5 := mkHid hA5; (have hE5 := mkHid (hE3.out.trans hx)); (have hC5 := mkHid (hC3.out.ext hx)); (have hI5 := mkHid (hI3.out.ext hx)); replace hlo := mkHid hlo; replace hos := mkHid hos; (have hil' : (ins.length : Int) ≤ 64 := by omega); clear hx hO hC3 hI3 hE3))
    clear tok KFi hE2
    have hri := mkHid hC5.out.map.rising
    have hC := mkHid (fun W (e : Ext w5 W) => hC5.out.ext e)
    have hI := mkHid (fun W (e : Ext w5 W) => hI5.out.ext e)
    have hA := mkHid (fun W (e : Ext w5 W) => hA5.out.ext e)
    clear hC5 hI5 hA5
    have st : ∃ k : Nat, k ≤ ins.length ∧ Value.int .i64 0 = .int .i64 k ∧ Ext w5 w5 := ⟨0, Nat.zero_le _, rfl, Ext.refl _⟩
    replace st := mkHid st
    go_loopw [6] (fun t6 wr => ∃ k : Nat, k ≤ ins.length ∧ t6 = .int .i64 k ∧ Ext w5 wr) (fun t6 _ => ins.length - (intOf t6).toNat)
    case atStart => exact st.out
    case round =>
      clear st
      obtain ⟨k, hk, rfl, hEr⟩ := hrel
      obtain ⟨w2', rfl⟩ : ∃ w2' : World, w2' = wr := ⟨_, rfl⟩
      by_cases hlt : k < ins.length
      · have hlt' : (k : Int) < (ins.length : Int) := by omega
        obtain ⟨b, o, c1, x1, -, p, q, -, hr, hp⟩ := (hI.out w2' hEr).get hlt
        simp only [Value.slice.injEq, true_and] at x1
        obtain ⟨rfl, rfl⟩ := x1
        have hmem : ins[k].1 ∈ ins.map (·.1) := List.mem_map.2 ⟨ins[k], List.getElem_mem hlt, rfl⟩
        have hokd := hok.out _ (List.getElem_mem hlt)
        generalize ins[k].1 = d at *
        obtain ⟨v, hf, -⟩ := find_at hri.out hpe.out hmem
        have KG := mkHid (get_ok d.nm w2' g M es (hC.out w2' hEr) (okPD_nm hokd) (d, v) hf)
        have hco := mayP_co hokd
        obtain ⟨hco1, hco2, hmo⟩ := hco
        have hr2 := mkHid hr
        have c0 : w2'.cell? ⟨b, o + k * 11, none⟩ = some (.string d.nm) := hr 0 _ rfl
        have hEr' := mkHid hEr
        have hp' := mkHid hp
        have hokd' := mkHid hokd
        replace hmo := mkHid hmo
        clear hr hp hmem hokd hf hEr
        have tok : Tok 20 := .mk _
        go_wp2_with (first
          | ((have _t : Tok 20 := tok); clear _t; clear tok; (have tok : Tok 21 := .mk _); go_at_call 9; refine KG.out.mono ?_; rintro e w6 ⟨v6, rfl, hk6, hx⟩; (obtain ⟨p6, q6, rfl, hq1, hq2⟩ := hk6.r.fv); (have hr6 := mkHid (rangeAt_ext hr2.out hx)); (have hp6 := mkHid (hp'.out.ext hx)); (have hpk6 := mkHid hk6.r); (have hE6 := mkHid (hEr'.out.trans hx)); clear c0 hx hk6 hq1 hq2; (obtain ⟨w7, hw7⟩ : ∃ W, W = (w6.alloc (.cells #[.string ⟨#[]⟩, .int .u8 0, .bool false, .slice none 0 0, .bool false, .slice none 0 0, .bool false, .slice none 0 0, .bool false, .slice none 0 0, .int .i64 0] 38)).setRow w6.heap.size #[.string d.nm, .int .u8 d.kd, .bool p6.b1, .slice p6.a1 p6.n1 p6.c1, .bool p6.b2, .slice p6.a2 p6.n2 p6.c2, .bool q6.b1, .slice q6.a1 q6.n1 q6.c1, .bool q6.b2, .slice q6.a2 q6.n2 q6.c2, .int .i64 d.co] := ⟨_, rfl⟩); (have zn := heap_alloc_new w6 (.cells #[.string ⟨#[]⟩, .int .u8 0, .bool false, .slice none 0 0, .bool false, .slice none 0 0, .bool false, .slice none 0 0, .bool false, .slice none 0 0, .int .i64 0] 38)); (have zw7 := mkHid (show w7.heap[w6.heap.size]? = some (.cells #[.string d.nm, .int .u8 d.kd, .bool p6.b1, .slice p6.a1 p6.n1 p6.c1, .bool p6.b2, .slice p6.a2 p6.n2 p6.c2, .bool q6.b1, .slice q6.a1 q6.n1 q6.c1, .bool q6.b2, .slice q6.a2 q6.n2 q6.c2, .int .i64 d.co] 38 (0, 0)) by rw [hw7]; exact setRow_heap _ _ _ _ _ _ zn)); (have xw7 := mkHid (show Ext w6 w7 by rw [hw7]; exact ((Ext.refl w6).al _).row (Nat.le_refl _) _)); replace hw7 := mkHid hw7; replace zn := mkHid zn)
          | ((have _t : Tok 21 := tok); clear _t; clear tok; (have tok : Tok 22 := .mk _); refine wpList_store_row rfl 38 (.tmp 7) (.tmp 55) rfl w6.heap.size #[.string d.nm, .int .u8 d.kd, .bool p6.b1, .slice p6.a1 p6.n1 p6.c1, .bool p6.b2, .slice p6.a2 p6.n2 p6.c2, .bool q6.b1, .slice q6.a1 q6.n1 q6.c1, .bool q6.b2, .slice q6.a2 q6.n2 q6.c2, .int .i64 d.co] rfl rfl 38 _ zn.out (by kernel_rfl) rfl (by kernel_rfl) ?_; rw [← hw7.out]))
        clear tok KG zn hw7 hr2 hp' hEr'
        have HP := mkHid (fun W (e : Ext w7 W) => e.blk zw7.out)
        have HR := mkHid (fun W (e : Ext w7 W) => rangeAt_ext hr6.out (xw7.out.trans e))
        have KS := mkHid (fun W (e : Ext w7 W) => samePart_same (.agg #[.string d.nm, .int .u8 d.kd, .bool p6.b1, .slice p6.a1 p6.n1 p6.c1, .bool p6.b2, .slice p6.a2 p6.n2 p6.c2, .bool q6.b1, .slice q6.a1 q6.n1 q6.c1, .bool q6.b2, .slice q6.a2 q6.n2 q6.c2, .int .i64 d.co]) (.agg #[.string d.nm, .int .u8 d.kd, .bool p.b1, .slice p.a1 p.n1 p.c1, .bool p.b2, .slice p.a2 p.n2 p.c2, .bool q.b1, .slice q.a1 q.n1 q.c1, .bool q.b2, .slice q.a2 q.n2 q.c2, .int .i64 d.co]) d W (hpk6.out.ext (xw7.out.trans e)) (hp6.out.ext (xw7.out.trans e)) hokd'.out.1 hokd'.out.2.1)
        have KB := mkHid (fun W (e : Ext w7 W) g' (hg : W.heap[g']? = some (.cells #[.int .u8 d.kd, .bool p6.b1, .slice p6.a1 p6.n1 p6.c1, .bool p6.b2, .slice p6.a2 p6.n2 p6.c2, .bool q6.b1, .slice q6.a1 q6.n1 q6.c1, .bool q6.b2, .slice q6.a2 q6.n2 q6.c2] 36 (0, 0))) => benchCheck_1 d.kd _ _ _ _ _ _ _ _ _ _ _ _ _ _ _ _ (some d.p) (some d.q) g' W (by have := ((hpk6.out.ext (xw7.out.trans e)).pq.1).any (Nat.le_trans hokd'.out.1 (by decide)); rwa [if_pos hokd'.out.1] at this) (by have := ((hpk6.out.ext (xw7.out.trans e)).pq.2).any (Nat.le_trans hokd'.out.2.1 (by decide)); rwa [if_pos hokd'.out.2.1] at this) hg)
        rw [hmo.out, if_pos rfl] at KB
        have HC10 : ∀ W, Ext w7 W → W.cell? ⟨w6.heap.size, 10, none⟩ = some (.int .i64 d.co) := fun W e => row16_cells (e.blk zw7.out) 10
        have hn1 : ¬ d.co < 0 := by omega
        have hn2 : ¬ 1073741824 < d.co := by omega
        have hE7 := mkHid (hE6.out.trans xw7.out)
        clear hr6 hp6 hpk6 hokd' zw7 xw7 hE6 hmo hco1 hco2
        by_cases hk0 : 0 < k
        · obtain ⟨j, hkj⟩ : ∃ j : Nat, (j : Int) = (k : Int) - 1 := ⟨k - 1, by omega⟩
          have hk0' : (0 : Int) < (k : Int) := by omega
          have hjl : (j : Int) < (ins.length : Int) := by omega
          have hj1 : j < os.length := by rw [hlo.out]; omega
          have hj2 : k < os.length := by rw [hlo.out]; omega
          obtain ⟨b5, o5, c5', x5, -, p5, q5, -, hr5, -⟩ := (hA.out w7 hE7.out).get hj1
          rw [hlo.out] at x5
          simp only [Value.slice.injEq, true_and] at x5
          obtain ⟨rfl, rfl⟩ := x5
          obtain ⟨b5', o5', c5'', x5, -, p5', q5', -, hr5', -⟩ := (hA.out w7 hE7.out).get hj2
          rw [hlo.out] at x5
          simp only [Value.slice.injEq, true_and, Option.some.injEq, Addr.mk.injEq, and_true] at x5
          obtain ⟨⟨rfl, rfl⟩, rfl⟩ := x5
          obtain ⟨nf1, nf2, nf3, nf4⟩ := name_facts (rising_at hri.out hos.out hj1 hj2 (by omega))
          obtain ⟨n1, hn1e⟩ : ∃ n1, n1 = os[j].1.nm := ⟨_, rfl⟩
          obtain ⟨n2, hn2e⟩ : ∃ n2, n2 = os[k].1.nm := ⟨_, rfl⟩
          have HN1 : ∀ W, Ext w7 W → W.cell? ⟨b5, o5 + j * 11, none⟩ = some (.string n1) := fun W e => by rw [hn1e]; exact e.cell (hr5 0 _ rfl)
          have HN2 : ∀ W, Ext w7 W → W.cell? ⟨b5, o5 + k * 11, none⟩ = some (.string n2) := fun W e => by rw [hn2e]; exact e.cell (hr5' 0 _ rfl)
          rw [← hn1e, ← hn2e] at nf1 nf2 nf3 nf4
          replace hkj := mkHid hkj
          clear hn1e hn2e hr5 hr5' hj1 hj2
          apply region_ext [.val (.bool true), .val (.bool false), .val (.bool false), .val (.agg #[.string d.nm, .int .u8 d.kd, .bool p6.b1, .slice p6.a1 p6.n1 p6.c1, .bool p6.b2, .slice p6.a2 p6.n2 p6.c2, .bool q6.b1, .slice q6.a1 q6.n1 q6.c1, .bool q6.b2, .slice q6.a2 q6.n2 q6.c2, .int .i64 d.co]), .val (.slice (some ⟨b, o, none⟩) ins.length c4), .val (.int .i64 k), .val (.pointer (some ⟨b, o + k * 11, none⟩)), .val (.agg #[.string d.nm, .int .u8 d.kd, .bool p.b1, .slice p.a1 p.n1 p.c1, .bool p.b2, .slice p.a2 p.n2 p.c2, .bool q.b1, .slice q.a1 q.n1 q.c1, .bool q.b2, .slice q.a2 q.n2 q.c2, .int .i64 d.co]), .val (.bool true), .val (.bool false), .val (.bool false), .val (.bool false), .val (.pointer (some ⟨w6.heap.size, 1, none⟩)), .val (.agg #[.int .u8 d.kd, .bool p6.b1, .slice p6.a1 p6.n1 p6.c1, .bool p6.b2, .slice p6.a2 p6.n2 p6.c2, .bool q6.b1, .slice q6.a1 q6.n1 q6.c1, .bool q6.b2, .slice q6.a2 q6.n2 q6.c2]), .pred (SlE #[.int .u8 d.kd, .bool p6.b1, .slice p6.a1 p6.n1 p6.c1, .bool p6.b2, .slice p6.a2 p6.n2 p6.c2, .bool q6.b1, .slice q6.a1 q6.n1 q6.c1, .bool q6.b2, .slice q6.a2 q6.n2 q6.c2]), .val (.int .i64 0), .val (.bool false), .val (.bool false), .val (.bool false), .val (.pointer (some ⟨w6.heap.size, 10, none⟩)), .val (.int .i64 d.co), .val (.bool false), .val (.bool false), .val (.bool false), .val (.pointer (some ⟨w6.heap.size, 10, none⟩)), .val (.int .i64 d.co), .val (.bool false), .val (.bool false), .val (.bool false), .val (.int .i64 k), .val (.bool true), .val (.bool true), .val (.slice (some ⟨b5, o5, none⟩) ins.length c5), .val (.int .i64 k), .val (.int .i64 j), .val (.pointer (some ⟨b5, o5 + j * 11, none⟩)), .val (.pointer (some ⟨b5, o5 + j * 11, none⟩)), .val (.string n1), .val (.slice (some ⟨b5, o5, none⟩) ins.length c5), .val (.int .i64 k), .val (.pointer (some ⟨b5, o5 + k * 11, none⟩)), .val (.pointer (some ⟨b5, o5 + k * 11, none⟩)), .val (.string n2), .val (.bool false), .val (.bool false), .val (.bool false)]
          case hok => kernel_rfl
          case hst =>
            iterate 14 (refine stable_vals _ ?_)
            refine st_slE _ ?_
            iterate 31 (refine stable_vals _ ?_)
            trivial
          iterate 3 (refine ⟨fun W hW _ => by go_simp; first | exact ⟨Ext.refl _, rfl⟩ | exact Ext.refl _, ?_⟩)
          refine ⟨?l60, ?_⟩
          case l60 =>
            intro W hW hF
            have hr := HP.out W hW
            with_reducible refine fr_load ?zhw 38 (.tmp 7) ?zho w6.heap.size ?zhx 38 #[.string d.nm, .int .u8 d.kd, .bool p6.b1, .slice p6.a1 p6.n1 p6.c1, .bool p6.b2, .slice p6.a2 p6.n2 p6.c2, .bool q6.b1, .slice q6.a1 q6.n1 q6.c1, .bool q6.b2, .slice q6.a2 q6.n2 q6.c2, .int .i64 d.co] (0, 0) _ hr Tryz.underlying38 ?zhd ?zhi ?zh
            case zhw => kernel_rfl
            case zho => rfl
            case zhx => kernel_rfl
            case zhd => rfl
            case zhi => kernel_rfl
            case zh => exact ⟨Ext.refl _, rfl⟩
          iterate 3 (refine ⟨fun W hW _ => by go_simp; first | exact ⟨Ext.refl _, rfl⟩ | exact Ext.refl _, ?_⟩)
          refine ⟨?l64, ?_⟩
          case l64 =>
            intro W hW hF
            have hr := HR.out W hW
            with_reducible refine fr_load_mid ?zhw 38 (.tmp 63) ?zho b (o + k * 11) ?zhx [.string d.nm, .int .u8 d.kd, .bool p.b1, .slice p.a1 p.n1 p.c1, .bool p.b2, .slice p.a2 p.n2 p.c2, .bool q.b1, .slice q.a1 q.n1 q.c1, .bool q.b2, .slice q.a2 q.n2 q.c2, .int .i64 d.co] _ hr Tryz.underlying38 ?zhd ?zhi ?zh
            case zhw => kernel_rfl
            case zho => rfl
            case zhx => kernel_rfl
            case zhd => rfl
            case zhi => kernel_rfl
            case zh => exact ⟨Ext.refl _, rfl⟩
          refine ⟨fun W hW _ => ?c65, ?_⟩
          case c65 =>
            go_simp
            refine (KS.out W hW).mono ?_
            rintro e w' ⟨rfl, h1⟩
            exact ⟨rfl, h1⟩
          iterate 4 (refine ⟨fun W hW _ => by go_simp; first | exact ⟨Ext.refl _, rfl⟩ | exact Ext.refl _, ?_⟩)
          refine ⟨?l70, ?_⟩
          case l70 =>
            intro W hW hF
            have hr := HP.out W hW
            with_reducible refine fr_load_sub ?zhw 36 (.tmp 69) ?zho w6.heap.size 1 ?zhx 38 _ #[.int .u8 d.kd, .bool p6.b1, .slice p6.a1 p6.n1 p6.c1, .bool p6.b2, .slice p6.a2 p6.n2 p6.c2, .bool q6.b1, .slice q6.a1 q6.n1 q6.c1, .bool q6.b2, .slice q6.a2 q6.n2 q6.c2] (0, 0) _ hr ?zhs Tryz.underlying36 ?zhd ?zhi ?zh
            case zhw => kernel_rfl
            case zho => rfl
            case zhx => kernel_rfl
            case zhs => rfl
            case zhd => rfl
            case zhi => kernel_rfl
            case zh => exact ⟨Ext.refl _, rfl⟩
          refine ⟨fun W hW _ => ?b71, fun v71 => ?_⟩
          case b71 =>
            go_simp
            exact ⟨(Ext.refl _).al _, _, rfl, heap_alloc_new _ _⟩
          refine ⟨fun W hW hF => ?c72, ?_⟩
          case c72 =>
            with_reducible refine Shut.open' ?_
            have hr : SlE #[.int .u8 d.kd, .bool p6.b1, .slice p6.a1 p6.n1 p6.c1, .bool p6.b2, .slice p6.a2 p6.n2 p6.c2, .bool q6.b1, .slice q6.a1 q6.n1 q6.c1, .bool q6.b2, .slice q6.a2 q6.n2 q6.c2] W v71 := hF.1 (by kernel_rfl)
            obtain ⟨b', rfl, hb⟩ := hr
            with_reducible refine Shut.mk ?_
            go_simp
            refine (KB.out W hW b' hb).mono ?_
            rintro e w' ⟨rfl, h1⟩
            exact ⟨rfl, h1⟩
          iterate 4 (refine ⟨fun W hW _ => by go_simp; first | exact ⟨Ext.refl _, rfl⟩ | exact Ext.refl _, ?_⟩)
          refine ⟨fun W hW _ => by have := HC10 W hW; go_simp; first | exact ⟨Ext.refl _, rfl⟩ | exact Ext.refl _, ?_⟩
          iterate 4 (refine ⟨fun W hW _ => by go_simp; first | exact ⟨Ext.refl _, rfl⟩ | exact Ext.refl _, ?_⟩)
          refine ⟨fun W hW _ => by have := HC10 W hW; go_simp; first | exact ⟨Ext.refl _, rfl⟩ | exact Ext.refl _, ?_⟩
          iterate 6 (refine ⟨fun W hW _ => by go_simp; first | exact ⟨Ext.refl _, rfl⟩ | exact Ext.refl _, ?_⟩)
          iterate 2 (refine ⟨fun W hW _ => by go_simp; first | exact ⟨Ext.refl _, rfl⟩ | exact Ext.refl _, ?_⟩)
          refine ⟨fun W hW _ => by go_simp; exact ⟨Ext.refl _, by rw [IntKind.wrap_i64]; have := hkj.out; omega⟩, ?_⟩
          iterate 2 (refine ⟨fun W hW _ => by go_simp; first | exact ⟨Ext.refl _, rfl⟩ | exact Ext.refl _, ?_⟩)
          refine ⟨fun W hW _ => by have := HN1 W hW; go_simp; first | exact ⟨Ext.refl _, rfl⟩ | exact Ext.refl _, ?_⟩
          iterate 4 (refine ⟨fun W hW _ => by go_simp; first | exact ⟨Ext.refl _, rfl⟩ | exact Ext.refl _, ?_⟩)
          refine ⟨fun W hW _ => by have := HN2 W hW; go_simp; first | exact ⟨Ext.refl _, rfl⟩ | exact Ext.refl _, ?_⟩
          iterate 3 (refine ⟨fun W hW _ => by go_simp; first | exact ⟨Ext.refl _, rfl⟩ | exact Ext.refl _, ?_⟩)
          intro W hW _
          have hE8 := mkHid (hE7.out.trans hW)
          clear HC10 HP HR KS KB hW hE7 HN1 HN2
          go_simp
          go_wp2_with fail
          refine ⟨⟨k + 1, by omega, by go_num, hE8.out⟩, by simp [intOf]; omega⟩
        · have hk0' : ¬ ((0 : Int) < (k : Int)) := by omega
          apply region_ext [.val (.bool true), .val (.bool false), .val (.bool false), .val (.agg #[.string d.nm, .int .u8 d.kd, .bool p6.b1, .slice p6.a1 p6.n1 p6.c1, .bool p6.b2, .slice p6.a2 p6.n2 p6.c2, .bool q6.b1, .slice q6.a1 q6.n1 q6.c1, .bool q6.b2, .slice q6.a2 q6.n2 q6.c2, .int .i64 d.co]), .val (.slice (some ⟨b, o, none⟩) ins.length c4), .val (.int .i64 k), .val (.pointer (some ⟨b, o + k * 11, none⟩)), .val (.agg #[.string d.nm, .int .u8 d.kd, .bool p.b1, .slice p.a1 p.n1 p.c1, .bool p.b2, .slice p.a2 p.n2 p.c2, .bool q.b1, .slice q.a1 q.n1 q.c1, .bool q.b2, .slice q.a2 q.n2 q.c2, .int .i64 d.co]), .val (.bool true), .val (.bool false), .val (.bool false), .val (.bool false), .val (.pointer (some ⟨w6.heap.size, 1, none⟩)), .val (.agg #[.int .u8 d.kd, .bool p6.b1, .slice p6.a1 p6.n1 p6.c1, .bool p6.b2, .slice p6.a2 p6.n2 p6.c2, .bool q6.b1, .slice q6.a1 q6.n1 q6.c1, .bool q6.b2, .slice q6.a2 q6.n2 q6.c2]), .pred (SlE #[.int .u8 d.kd, .bool p6.b1, .slice p6.a1 p6.n1 p6.c1, .bool p6.b2, .slice p6.a2 p6.n2 p6.c2, .bool q6.b1, .slice q6.a1 q6.n1 q6.c1, .bool q6.b2, .slice q6.a2 q6.n2 q6.c2]), .val (.int .i64 0), .val (.bool false), .val (.bool false), .val (.bool false), .val (.pointer (some ⟨w6.heap.size, 10, none⟩)), .val (.int .i64 d.co), .val (.bool false), .val (.bool false), .val (.bool false), .val (.pointer (some ⟨w6.heap.size, 10, none⟩)), .val (.int .i64 d.co), .val (.bool false), .val (.bool false), .val (.bool false), .val (.int .i64 k), .val (.bool false), .val (.bool false), .val undef, .val undef, .val undef, .val undef, .val undef, .val undef, .val undef, .val undef, .val undef, .val undef, .val undef, .val undef, .val (.bool false), .val (.bool false)]
          case hok => kernel_rfl
          case hst =>
            iterate 14 (refine stable_vals _ ?_)
            refine st_slE _ ?_
            iterate 31 (refine stable_vals _ ?_)
            trivial
          iterate 3 (refine ⟨fun W hW _ => by go_simp; first | exact ⟨Ext.refl _, rfl⟩ | exact Ext.refl _, ?_⟩)
          refine ⟨?l60, ?_⟩
          case l60 =>
            intro W hW hF
            have hr := HP.out W hW
            with_reducible refine fr_load ?zhw 38 (.tmp 7) ?zho w6.heap.size ?zhx 38 #[.string d.nm, .int .u8 d.kd, .bool p6.b1, .slice p6.a1 p6.n1 p6.c1, .bool p6.b2, .slice p6.a2 p6.n2 p6.c2, .bool q6.b1, .slice q6.a1 q6.n1 q6.c1, .bool q6.b2, .slice q6.a2 q6.n2 q6.c2, .int .i64 d.co] (0, 0) _ hr Tryz.underlying38 ?zhd ?zhi ?zh
            case zhw => kernel_rfl
            case zho => rfl
            case zhx => kernel_rfl
            case zhd => rfl
            case zhi => kernel_rfl
            case zh => exact ⟨Ext.refl _, rfl⟩
          iterate 3 (refine ⟨fun W hW _ => by go_simp; first | exact ⟨Ext.refl _, rfl⟩ | exact Ext.refl _, ?_⟩)
          refine ⟨?l64, ?_⟩
          case l64 =>
            intro W hW hF
            have hr := HR.out W hW
            with_reducible refine fr_load_mid ?zhw 38 (.tmp 63) ?zho b (o + k * 11) ?zhx [.string d.nm, .int .u8 d.kd, .bool p.b1, .slice p.a1 p.n1 p.c1, .bool p.b2, .slice p.a2 p.n2 p.c2, .bool q.b1, .slice q.a1 q.n1 q.c1, .bool q.b2, .slice q.a2 q.n2 q.c2, .int .i64 d.co] _ hr Tryz.underlying38 ?zhd ?zhi ?zh
            case zhw => kernel_rfl
            case zho => rfl
            case zhx => kernel_rfl
            case zhd => rfl
            case zhi => kernel_rfl
            case zh => exact ⟨Ext.refl _, rfl⟩
          refine ⟨fun W hW _ => ?c65, ?_⟩
          case c65 =>
            go_simp
            refine (KS.out W hW).mono ?_
            rintro e w' ⟨rfl, h1⟩
            exact ⟨rfl, h1⟩
          iterate 4 (refine ⟨fun W hW _ => by go_simp; first | exact ⟨Ext.refl _, rfl⟩ | exact Ext.refl _, ?_⟩)
          refine ⟨?l70, ?_⟩
          case l70 =>
            intro W hW hF
            have hr := HP.out W hW
            with_reducible refine fr_load_sub ?zhw 36 (.tmp 69) ?zho w6.heap.size 1 ?zhx 38 _ #[.int .u8 d.kd, .bool p6.b1, .slice p6.a1 p6.n1 p6.c1, .bool p6.b2, .slice p6.a2 p6.n2 p6.c2, .bool q6.b1, .slice q6.a1 q6.n1 q6.c1, .bool q6.b2, .slice q6.a2 q6.n2 q6.c2] (0, 0) _ hr ?zhs Tryz.underlying36 ?zhd ?zhi ?zh
            case zhw => kernel_rfl
            case zho => rfl
            case zhx => kernel_rfl
            case zhs => rfl
            case zhd => rfl
            case zhi => kernel_rfl
            case zh => exact ⟨Ext.refl _, rfl⟩
          refine ⟨fun W hW _ => ?b71, fun v71 => ?_⟩
          case b71 =>
            go_simp
            exact ⟨(Ext.refl _).al _, _, rfl, heap_alloc_new _ _⟩
          refine ⟨fun W hW hF => ?c72, ?_⟩
          case c72 =>
            with_reducible refine Shut.open' ?_
            have hr : SlE #[.int .u8 d.kd, .bool p6.b1, .slice p6.a1 p6.n1 p6.c1, .bool p6.b2, .slice p6.a2 p6.n2 p6.c2, .bool q6.b1, .slice q6.a1 q6.n1 q6.c1, .bool q6.b2, .slice q6.a2 q6.n2 q6.c2] W v71 := hF.1 (by kernel_rfl)
            obtain ⟨b', rfl, hb⟩ := hr
            with_reducible refine Shut.mk ?_
            go_simp
            refine (KB.out W hW b' hb).mono ?_
            rintro e w' ⟨rfl, h1⟩
            exact ⟨rfl, h1⟩
          iterate 4 (refine ⟨fun W hW _ => by go_simp; first | exact ⟨Ext.refl _, rfl⟩ | exact Ext.refl _, ?_⟩)
          refine ⟨fun W hW _ => by have := HC10 W hW; go_simp; first | exact ⟨Ext.refl _, rfl⟩ | exact Ext.refl _, ?_⟩
          iterate 4 (refine ⟨fun W hW _ => by go_simp; first | exact ⟨Ext.refl _, rfl⟩ | exact Ext.refl _, ?_⟩)
          refine ⟨fun W hW _ => by have := HC10 W hW; go_simp; first | exact ⟨Ext.refl _, rfl⟩ | exact Ext.refl _, ?_⟩
          iterate 6 (refine ⟨fun W hW _ => by go_simp; first | exact ⟨Ext.refl _, rfl⟩ | exact Ext.refl _, ?_⟩)
          iterate 12 (refine ⟨fun W hW _ => by go_simp, ?_⟩)
          iterate 2 (refine ⟨fun W hW _ => by go_simp; first | exact ⟨Ext.refl _, rfl⟩ | exact Ext.refl _, ?_⟩)
          intro W hW _
          have hE8 := mkHid (hE7.out.trans hW)
          clear HC10 HP HR KS KB hW hE7
          go_simp
          go_wp2_with fail
          refine ⟨⟨k + 1, by omega, by go_num, hE8.out⟩, by simp [intOf]; omega⟩
      · have hke : k = ins.length := by omega
        subst hke
        obtain ⟨w6, hw6⟩ : ∃ w6, w6 = w2' := ⟨_, rfl⟩
        rw [← hw6] at hEr ⊢
        clear hw6
        have hE6 := mkHid hEr

        clear hlt hEr
        have hI6 := mkHid (fun W (e : Ext w6 W) => hI.out W (hE6.out.trans e))
        have hA6 := mkHid (fun W (e : Ext w6 W) => hA.out W (hE6.out.trans e))
        have hE06 := mkHid (hE5.out.trans hE6.out)
        clear hI hA hC hE6 hE5
        go_wp2_with fail
        have st : TurnR w6 ins (.slice none 0 0) (.int .i64 ((ins.length : Int) - 1)) w6 := ⟨(ins.length : Int) - 1, ins.length, Nat.le_refl _, rfl, rfl, by rw [Nat.sub_self, List.drop_length]; exact World.ownsRow_nil _ _ _ _, Ext.refl _⟩
        replace st := mkHid st
        go_loopw [9, 10] (fun t9 t10 wr => TurnR w6 ins t9 t10 wr) (fun _ t10 _ => (intOf t10 + 1).toNat)
        case atStart => exact st.out
        case round =>
          clear st
          obtain ⟨z, k, hk, rfl, hz, hrow, hEr⟩ := hrel
          obtain ⟨w7, rfl⟩ : ∃ w7 : World, w7 = wr := ⟨_, rfl⟩
          by_cases hz0 : 0 ≤ z
          · obtain ⟨j, rfl⟩ := Int.eq_ofNat_of_zero_le hz0
            have hkj : k = j + 1 := by omega
            subst hkj
            have hlt : j < ins.length := by omega
            have hlt' : (j : Int) < (ins.length : Int) := by omega
            obtain ⟨b, o, c1, x1, -, p, q, e0, hr, hp⟩ := (hI6.out w7 hEr).get hlt
            simp only [Value.slice.injEq, true_and] at x1
            obtain ⟨rfl, rfl⟩ := x1
            have hst := turn_step hlt (d := ins[j].1) (v := ins[j].2) rfl
            rw [e0] at hst
            generalize ins[j].1 = d at *
            have hlen : ins.length - (j + 1) + 1 = ins.length - j := by omega
            have hr' := mkHid hr
            have hrow' := mkHid hrow
            have hEr' := mkHid hEr
            replace hst := mkHid hst
            replace hlen := mkHid hlen
            clear hr hrow hEr hp e0 hz hk
            have tok : Tok 27 := .mk _
            go_wp2_with (first
              | ((have _t : Tok 27 := tok); clear _t; clear tok; (have tok : Tok 28 := .mk _); refine wpList_load_mid rfl 38 (.tmp 113) rfl b (o + j * 11) rfl [.string d.nm, .int .u8 d.kd, .bool p.b1, .slice p.a1 p.n1 p.c1, .bool p.b2, .slice p.a2 p.n2 p.c2, .bool q.b1, .slice q.a1 q.n1 q.c1, .bool q.b2, .slice q.a2 q.n2 q.c2, .int .i64 d.co] _ hr'.out Tryz.underlying38 rfl (by kernel_rfl) ?_)
              | ((have _t : Tok 28 := tok); clear _t; clear tok; (have tok : Tok 29 := .mk _); at_builtin; (have Z := hrow'.out.alloc (.cells #[.string d.nm, .int .u8 d.kd, .bool p.b1, .slice p.a1 p.n1 p.c1, .bool p.b2, .slice p.a2 p.n2 p.c2, .bool q.b1, .slice q.a1 q.n1 q.c1, .bool q.b2, .slice q.a2 q.n2 q.c2, .int .i64 d.co] 38)); (have U := Tryz.underlying22); refine wpList_append_own_at _ ?ya ?yb ?yc 22 ?yd w6.heap.size 38 i0 zeroPart 11 160 U hi hz0' hz1 hz2 ?ye ?yf u9 (ins.length - (j + 1)) _ ?yh Z ⟨w7.heap.size, 0, none⟩ 1 1 [.string d.nm, .int .u8 d.kd, .bool p.b1, .slice p.a1 p.n1 p.c1, .bool p.b2, .slice p.a2 p.n2 p.c2, .bool q.b1, .slice q.a1 q.n1 q.c1, .bool q.b2, .slice q.a2 q.n2 q.c2, .int .i64 d.co] ?yi ?yj ?zc1 ?zc2 ?zc3 ?zc4 ?zc5 ?_; (case ya => rfl); (case yd => rfl); (case ye => rfl); (case yf => decide); (case yh => rfl); (case yi => rfl); (case yj => rfl); (case zc1 => exact news_cells w7 _ _); (case zc2 => exact part_one d p q); (case zc3 => unfold maxLen; omega); (case zc4 => omega); (case zc5 => have := hEr'.out.size; rw [World.size_alloc]; omega); intro v8 w8 hown8 hgrow8 _ _; clear Z U; replace hown8 := mkHid hown8; replace hgrow8 := mkHid hgrow8))
            have hg7 : Ext w7 (w7.alloc (.cells #[.string d.nm, .int .u8 d.kd, .bool p.b1, .slice p.a1 p.n1 p.c1, .bool p.b2, .slice p.a2 p.n2 p.c2, .bool q.b1, .slice q.a1 q.n1 q.c1, .bool q.b2, .slice q.a2 q.n2 q.c2, .int .i64 d.co] 38)) := (Ext.refl w7).al _
            have hE8 : Ext w6 w8 := (hEr'.out.trans hg7).gr hgrow8.out (fun k e => (owns11_lt hrow'.out k e).1)
            have hown := hown8.out
            rw [hlen.out] at hown
            have hst2 : cellsP (ins.drop (j + 1)).reverse ++ [.string d.nm, .int .u8 d.kd, .bool p.b1, .slice p.a1 p.n1 p.c1, .bool p.b2, .slice p.a2 p.n2 p.c2, .bool q.b1, .slice q.a1 q.n1 q.c1, .bool q.b2, .slice q.a2 q.n2 q.c2, .int .i64 d.co] = cellsP (ins.drop j).reverse := hst.out.symm
            rw [hst2] at hown
            refine ⟨⟨(j : Int) - 1, j, by omega, by go_num, rfl, hown, hE8⟩, by simp [intOf] <;> omega⟩
          · have hk0 : k = 0 := by omega
            subst hk0
            rw [List.drop_zero, Nat.sub_zero] at hrow
            obtain ⟨w8, hw8⟩ : ∃ w8, w8 = w7 := ⟨_, rfl⟩
            rw [← hw8] at hrow hEr ⊢
            clear hw8
            have hrl : ins.reverse.length = ins.length := List.length_reverse
            have hT8 := rowL_of_owns (os := ins.reverse) (by rw [hrl]; exact hrow) (fun x hx => (hI6.out w8 hEr).part x (List.mem_reverse.1 hx))
            have hD8 := inD_rowL hT8 (fun x hx => hok.out x (List.mem_reverse.1 hx))
            have KF2 := mkHid (filled_c u9 (inOf ins.reverse) w8 hD8 (by simp [inOf]; omega))
            have hag := mkHid (again_all hri.out hpe.out hok.out hil)
            have hE08 := mkHid (hE06.out.trans hEr)
            have hI8 := mkHid (fun W (e : Ext w8 W) => hI6.out W (hEr.trans e))
            have hA8 := mkHid (fun W (e : Ext w8 W) => hA6.out W (hEr.trans e))
            clear hT8 hD8 hrow hEr hI6 hA6 hE06 hrl hz hk
            have tok : Tok 34 := .mk _
            go_wp2_with (first
              | ((have _t : Tok 34 := tok); clear _t; clear tok; (have tok : Tok 35 := .mk _); go_at_call 7; refine KF2.out.mono ?_; rintro e w9 ⟨g2, M2, es2, ins2, s12, rfl, hW, hins⟩; rw [hag.out] at hins; (have hl2 : ins2.length = ins.length := by have := congrArg List.length hins; simpa using this); (have hpe2 : (es2.map (·.1)).Perm (ins.map (·.1)) := by refine hW.perm.trans ?_; rw [hins]; exact List.reverse_perm _); (have hC9 := mkHid hW.cat); (have hE9 := mkHid hW.ext); (have hlo2 := mkHid hW.lo.2); (have hes2 := mkHid (rising_eq hC9.out.map.rising hri.out (hpe2.trans hpe.out.symm))); (obtain ⟨a12, c12, rfl, -, -⟩ := row_of_owns11 hW.row); rw [hl2]; clear hW hins hl2 hpe2)
              | ((have _t : Tok 35 := tok); clear _t; clear tok; (have tok : Tok 36 := .mk _); go_at_call 8; refine (all_l w9 g2 M2 es2 hC9.out).mono ?_; rintro e w10' ⟨v10, os2, rfl, hO, hos2, hx⟩; (have hO2 := hO.rowL); (obtain ⟨a10, c10, rfl, hc10, -⟩ := row_of_owns11 hO.row); (have KS2 := mkHid (sameParts_c (.slice a10 os2.length c10) (.slice a5 ins.length c5) os2 os w10' hO2 (hA8.out _ (hE9.out.trans hx)) (by rw [hos2, hos.out]; exact hes2.out) (fun y hy => (all_nf hos2 hC9.out.ok hy)) (by have h1 := congrArg List.length hos2; have h2 := hC9.out.few; simp only [List.length_map] at h1; omega))); (have hE10' := mkHid (hE9.out.trans hx)); (have hC10' := mkHid (hC9.out.ext hx)); clear hx hO hO2 hC9 hE9)
              | ((have _t : Tok 36 := tok); clear _t; clear tok; (have tok : Tok 37 := .mk _); go_at_call 12; refine KS2.out.mono ?_; rintro e w10 ⟨rfl, hx⟩; (have hE8 := mkHid (hE10'.out.trans hx)); (have hC10 := mkHid (hC10'.out.ext hx)); clear hx hE10' hC10' KS2))
            clear tok KF2 hag
            have st : BackR w8 g2 M2 ins.length es (.int .i64 0) w10 := ⟨0, es2, Nat.zero_le _, rfl, hC10.out, hes2.out, hE8.out⟩
            replace st := mkHid st
            clear hC10 hE8
            go_loopw [13] (fun t13 wr => BackR w8 g2 M2 ins.length es t13 wr) (fun t13 _ => ins.length - (intOf t13).toNat)
            case atStart => exact st.out
            case round =>
              clear st
              obtain ⟨k, es3, hk, rfl, hC3, he3, hEr⟩ := hrel
              obtain ⟨w11, rfl⟩ : ∃ w11 : World, w11 = wr := ⟨_, rfl⟩
              by_cases hlt : k < ins.length
              · have hlt' : (k : Int) < (ins.length : Int) := by omega
                obtain ⟨b, o, c1, x1, -, p, q, -, hr, hp⟩ := (hI8.out w8 (Ext.refl _)).get hlt
                simp only [Value.slice.injEq, true_and] at x1
                obtain ⟨rfl, rfl⟩ := x1
                have hmem : ins[k].1 ∈ ins.map (·.1) := List.mem_map.2 ⟨ins[k], List.getElem_mem hlt, rfl⟩
                have hokd := hok.out _ (List.getElem_mem hlt)
                generalize ins[k].1 = d at *
                have hpe3 : (es3.map (·.1)).Perm (ins.map (·.1)) := by rw [he3]; exact hpe.out
                have hri3 := hC3.map.rising
                obtain ⟨v, hf, hm3⟩ := find_at hri3 hpe3 hmem
                have hl3 : es3.length = ins.length := by have := hpe3.length_eq; simpa using this
                have hdl : (es3.filter fun p => !nameIs d.nm p).length + 1 = es3.length := drop_len hri3 hm3
                have KD1 := mkHid (drop_ok d.nm w11 g2 M2 es3 hC3 (okPD_nm hokd) (d, v) hf)
                have KD2 := mkHid (fun W (hc : Cat W g2 M2 (es3.filter fun p => !nameIs d.nm p)) => drop_no d.nm W g2 M2 _ hc (okPD_nm hokd) (find_dropped d.nm es3))
                have KG := mkHid (fun W (hc : Cat W g2 M2 (es3.filter fun p => !nameIs d.nm p)) => get_no d.nm W g2 M2 _ hc (okPD_nm hokd) (find_dropped d.nm es3))
                have KP := mkHid (fun W (hc : Cat W g2 M2 (es3.filter fun p => !nameIs d.nm p)) (e : Ext w8 W) => put_in (rdOf d) p q W g2 M2 _ hc (by have := ((hp.ext e).pq.1).any (Nat.le_trans hokd.1 (by decide)); rwa [if_pos hokd.1] at this) (by have := ((hp.ext e).pq.2).any (Nat.le_trans hokd.2.1 (by decide)); rwa [if_pos hokd.2.1] at this) (okPD_nm hokd) d (goes_ok hokd) (find_dropped d.nm es3) (by omega))
                have HB := mkHid (fun (u : Value) (W : World) (hc : Cat W g2 M2 (insP (d, u) (es3.filter fun p => !nameIs d.nm p))) => (drop_put (x := (d, v)) hri3 hm3 u hc.map.rising).trans he3)
                have hrng := mkHid (fun W (e : Ext w8 W) => rangeAt_ext hr e)
                have hcell := mkHid (fun W (e : Ext w8 W) => show W.cell? ⟨b, o + k * 11, none⟩ = some (.string d.nm) from e.cell (hr 0 _ rfl))
                have c0 := hcell.out w11 hEr
                have hEr' := mkHid hEr
                have hl3' : ((es3.filter fun p => !nameIs d.nm p).length : Int) = (ins.length : Int) - 1 := by omega
                replace hl3' := mkHid hl3'
                clear hr hp hmem hokd hf hm3 hpe3 hri3 hC3 hEr hl3 hdl he3
                have tok : Tok 42 := .mk _
                go_wp2_with (first
                  | ((have _t : Tok 42 := tok); clear _t; clear tok; (have tok : Tok 43 := .mk _); go_at_call 13; refine KD1.out.mono ?_; rintro e wa ⟨rfl, hca, hta⟩; (have hEa := mkHid (put_chg hEr'.out hta hlo2.out)); clear c0; (have ca := hcell.out wa hEa.out); replace hca := mkHid hca; clear hta)
                  | ((have _t : Tok 43 := tok); clear _t; clear tok; (have tok : Tok 44 := .mk _); go_at_call 13; refine (KD2.out wa hca.out).mono ?_; rintro e wb ⟨rfl, hx⟩; (have hEb := mkHid (hEa.out.trans hx)); clear ca; (have cb := hcell.out wb hEb.out); (have hcb := mkHid (hca.out.ext hx)); clear hx hca hEa)
                  | ((have _t : Tok 44 := tok); clear _t; clear tok; (have tok : Tok 45 := .mk _); go_at_call 9; refine (KG.out wb hcb.out).mono ?_; rintro e wc ⟨rfl, hx⟩; clear cb; (obtain ⟨wd, hwd⟩ : ∃ W, W = (wc.alloc (.cells #[.string ⟨#[]⟩, .int .u8 0, .bool false, .slice none 0 0, .bool false, .slice none 0 0, .bool false, .slice none 0 0, .bool false, .slice none 0 0, .int .i64 0] 38)).setRow wc.heap.size #[.string ⟨#[]⟩, .int .u8 0, .bool false, .slice none 0 0, .bool false, .slice none 0 0, .bool false, .slice none 0 0, .bool false, .slice none 0 0, .int .i64 0] := ⟨_, rfl⟩); (have zn := heap_alloc_new wc (.cells #[.string ⟨#[]⟩, .int .u8 0, .bool false, .slice none 0 0, .bool false, .slice none 0 0, .bool false, .slice none 0 0, .bool false, .slice none 0 0, .int .i64 0] 38)); (have zwd := mkHid (show wd.heap[wc.heap.size]? = some (.cells #[.string ⟨#[]⟩, .int .u8 0, .bool false, .slice none 0 0, .bool false, .slice none 0 0, .bool false, .slice none 0 0, .bool false, .slice none 0 0, .int .i64 0] 38 (0, 0)) by rw [hwd]; exact setRow_heap _ _ _ _ _ _ zn)); (have xwd := mkHid (show Ext wc wd by rw [hwd]; exact ((Ext.refl wc).al _).row (Nat.le_refl _) _)); replace hwd := mkHid hwd; replace zn := mkHid zn; (have hEd := mkHid (hEb.out.trans (hx.trans xwd.out))); (have hcd := mkHid (hcb.out.ext (hx.trans xwd.out))); clear hx hEb hcb xwd zwd)
                  | ((have _t : Tok 45 := tok); clear _t; clear tok; (have tok : Tok 46 := .mk _); refine wpList_store_row rfl 38 (.tmp 14) (.tmp 166) rfl wc.heap.size #[.string ⟨#[]⟩, .int .u8 0, .bool false, .slice none 0 0, .bool false, .slice none 0 0, .bool false, .slice none 0 0, .bool false, .slice none 0 0, .int .i64 0] rfl rfl 38 _ zn.out (by kernel_rfl) rfl (by kernel_rfl) ?_; rw [← hwd.out])
                  | ((have _t : Tok 46 := tok); clear _t; clear tok; (have tok : Tok 47 := .mk _); go_at_call 8; refine (all_l wd g2 M2 _ hcd.out).mono ?_; rintro e we ⟨v3, os3, rfl, hO, ho3, hx⟩; (have hl3 : (os3.length : Int) = (ins.length : Int) - 1 := by have h1 := congrArg List.length ho3; simp only [List.length_map] at h1; rw [h1]; exact hl3'.out); (obtain ⟨a3, c3, rfl, -, -⟩ := row_of_owns11 hO.row); (have hEe := mkHid (hEd.out.trans hx)); (have hce := mkHid (hcd.out.ext hx)); (have hre := mkHid (hrng.out we hEe.out)); clear hx hO hEd hcd ho3)
                  | ((have _t : Tok 47 := tok); clear _t; clear tok; (have tok : Tok 48 := .mk _); refine wpList_load_midG (by kernel_rfl) 38 (.tmp 182) rfl b (o + k * 11) rfl [.string d.nm, .int .u8 d.kd, .bool p.b1, .slice p.a1 p.n1 p.c1, .bool p.b2, .slice p.a2 p.n2 p.c2, .bool q.b1, .slice q.a1 q.n1 q.c1, .bool q.b2, .slice q.a2 q.n2 q.c2, .int .i64 d.co] _ hre.out Tryz.underlying38 rfl (by kernel_rfl) ?_)
                  | ((have _t : Tok 48 := tok); clear _t; clear tok; (have tok : Tok 49 := .mk _); go_at_call 14; refine (KP.out we hce.out hEe.out).mono ?_; rintro e wf ⟨rfl, u, -, hcf, htf⟩; (have hEf := mkHid (put_chg hEe.out htf hlo2.out)); (have hbk := mkHid (HB.out u wf hcf)); replace hcf := mkHid hcf; clear htf hce hEe hre)
                  | ((have _t : Tok 49 := tok); clear _t; clear tok; (have tok : Tok 50 := .mk _); go_at_call 8; refine (all_l wf g2 M2 _ hcf.out).mono ?_; rintro e wg ⟨v4, os4, rfl, hO, ho4, hx⟩; (have hO4 := hO.rowL); (obtain ⟨a6, c6, rfl, -, -⟩ := row_of_owns11 hO.row); (have hEg := mkHid (hEf.out.trans hx)); (have KS4 := mkHid (sameParts_c (.slice a6 os4.length c6) (.slice a5 ins.length c5) os4 os wg hO4 (hA8.out _ hEg.out) (by rw [ho4, hos.out]; exact hbk.out) (fun y hy => all_nf ho4 hcf.out.ok hy) (by have h1 := congrArg List.length ho4; have h2 := hcf.out.few; simp only [List.length_map] at h1; omega))); (have hcg := mkHid (hcf.out.ext hx)); clear hx hO hO4 ho4 hcf hEf)
                  | ((have _t : Tok 50 := tok); clear _t; clear tok; (have tok : Tok 51 := .mk _); go_at_call 12; refine KS4.out.mono ?_; rintro e wh ⟨rfl, hx⟩; (have hEh := mkHid (hEg.out.trans hx)); (have hch := mkHid (hcg.out.ext hx)); clear hx hEg hcg KS4))
                refine ⟨⟨k + 1, _, by omega, by go_num, hch.out, hbk.out, hEh.out⟩, by simp [intOf] <;> omega⟩
              · have hke : k = ins.length := by omega
                subst hke
                have hEf := mkHid (hE08.out.trans hEr)
                clear hEr hC3 he3
                go_wp2_with fail
                go_ret
                exact ⟨rfl, hEf.out⟩
end Go.Proofs.YtkkfgphcmnhabaaGreatDoor
namespace Go.Proofs.YtkkfgphcmnhabaaGreatDoor
set_option maxRecDepth 100000
open Go Go.ChangeShapes Go.WideShapes Go.ChangeAt Go.RowKit Go.Joins Go.Deep
theorem ownKnob25 : ownKnob Tryz.prog.godebug = none := by kernel_rfl
section
variable {H : Type} {enc : TypeId × Value → H}
/-- A row with listed variables, its first world's shape told too. -/
theorem handed_shaped {a : Assume} {C : Checked} {os : Os} {f : FuncId} {fn : Func} {s : ChangeSpec} {conds : List PathCond} {apart fresh handsOn again : Bool} {X : World → Array Value → Prop}
    (hX : ∀ (w w' : World) (args : Array Value), w.heap = w'.heap → X w args → X w' args) (own : ownKnob C.prog.godebug = none) (started : os.Started) (noInit : C.prog.inits.idxOf? f = none) (hfn : C.prog.funcs[f]? = some fn)
    (witness : ∃ (w : World) (tape : Tape) (i : Input), w.os = os ∧ (w.forCall tape i).Shaped C.prog ∧ i.vars = [] ∧ Input.okWide C.prog (w.forCall tape i) .any w.heap.size f i ∧
      ((s.pre enc C.prog fn conds apart (w.forCall tape i).memory i.args ∧ X (w.forCall tape i).memory i.args) ∧ sizedMet enc C.prog fn (OpenSpec.ofChange s) apart (w.forCall tape i).memory i.args) ∧ a.holds C.prog (lone (Frame.enter C.prog f i.args .normal) [] (w.forCall tape i)))
    (contract : ∀ (W : World) (base : Nat) (args : Array Value) (ds gs : List (DataW H)) (before : List MemPlace), (∀ (j : Nat) t v, fn.params[j]? = some t → args[j]? = some v → Value.okWide C.prog W .any base t v) →
      DataW.Whole enc C.prog fn.params.toList s.vars apart W args.toList ds gs before → conds.all (PathCond.test C.prog ⟨fn.params.toList, ds, s.plain.varTypes C.prog, gs⟩) = true →
      (DataW.weightsEach C.prog (fn.params.toList ++ s.plain.varTypes C.prog) (ds ++ gs)).all (· ≤ reachBytes) = true → X W args → W.ShapedOpen C.prog → a.holds C.prog (lone (Frame.enter C.prog f args .normal) [] W) →
      Calls C.prog f args W fun e W' => ∃ v, e = .returned v ∧ s.post enc C.prog fn apart fresh handsOn again W args v W') :
    ReturnsInHanded a C os f .any (fun w args => (s.pre enc C.prog fn conds apart w args ∧ X w args) ∧ sizedMet enc C.prog fn (OpenSpec.ofChange s) apart w args) (s.post enc C.prog fn apart fresh handsOn again) := by
  refine returnsInHanded_of_calls own started noInit witness fun w tape i _ hsh _ hok hpre hh => ?_
  have hval := hok
  obtain ⟨_, _, _, fn1, e1, _, _, _, _, hv⟩ := hval
  obtain rfl : fn1 = fn := Option.some.inj (e1.symm.trans hfn)
  obtain ⟨⟨⟨ds, gs, before, hw, hc⟩, hx⟩, hz⟩ := hpre
  have key := contract (w.forCall tape i) w.heap.size i.args ds gs before hv (DataW.Whole.of_heap (w' := w.forCall tape i) (by rfl) hw) hc (hz.weights hw) (hX _ _ _ (by rfl) hx) hsh hh
  refine key.mono ?_
  rintro e W' ⟨v, rfl, hp⟩
  exact ChangeSpec.post_blind hp
end
theorem max0_of {W : World} (h : W.ShapedOpen Tryz.prog) : Max0 W := by
  obtain ⟨m, hm⟩ := cell_of_shapedOpen_int (P := Tryz.prog) (w := W) (g := 0) (t := 3) (zero := #[.int .i64 0]) (k := .i64) h (of_decide_eq_true (by kernel_rfl)) (by kernel_rfl) rfl (by kernel_rfl) (by kernel_rfl) Tryz.underlying3
  exact ⟨m, hm⟩
theorem tab10_laid : (Rows.laid_internal_strconv_uint64pow10 : DataW Unit) = Lib.tabData .u64 Lib.pow10Tab := by kernel_rfl
theorem tab10_of {W : World} (h : laidMetH Tryz.prog Rows.catalogHoldsRow.laid W) : Tab10 W := by
  rw [MakeChecks.laidMetH_plain _ _ _ (by kernel_rfl)] at h
  obtain ⟨ps, ⟨_, _, _, _, _, _, _, _, _, _, h2, _⟩, _⟩ := h
  obtain ⟨_, _, _, _, _, _, _, _, _, _, h3, _⟩ := h2
  obtain ⟨g, t, cs, fuel, p, q, hg, hty, hvar, hd, _, _⟩ := h3
  obtain rfl := Option.some.inj ((show Tryz.prog.globalNamed "internal/strconv.uint64pow10" = some 1 by kernel_rfl).symm.trans hg)
  rw [tab10_laid] at hd
  obtain rfl := Option.some.inj ((show (Tryz.prog.globals[1]?).map (·.type) = some 203 by kernel_rfl).symm.trans hty)
  have hc := Lib.cells_of_tab Tryz.underlying203 Tryz.underlying151 (by kernel_rfl) (by kernel_rfl) hd
  show W.var? Tryz.prog "internal/strconv.uint64pow10" = some _
  rw [hvar, ← hc]
theorem inL_of {H : Type} {enc : TypeId × Value → H} {w : World} {base : Nat} {spare : Nat → Bool} {held : Bool} {r : Reach} {b0 : Nat} {v : Value} {d : DataW H} {p : List MemPlace} (hv : Value.okWide Tryz.prog w r b0 22 v) (h : DataW.Trod enc Tryz.prog w base spare held 22 v d p)
    (hM : ∀ k ∈ d.weights Tryz.prog 22, k ≤ reachBytes) : ∃ vs, InL w v vs := by
  obtain ⟨a, len, cap, rfl⟩ := okWide_slice Tryz.underlying22 hv
  obtain ⟨fuel, hh⟩ := h
  obtain ⟨s, vs, e, hi⟩ := open_parts hh reachBytes hM reach_le
  have : s = .slice a len cap := by
    have e' : [Value.slice a len cap] = [s] := e
    simpa using e'.symm
  subst this
  exact ⟨vs, hi⟩
end Go.Proofs.YtkkfgphcmnhabaaGreatDoor
namespace Go.Proofs.YtkkfgphcmnhabaaGreatDoor
set_option maxRecDepth 100000
open Go Go.ChangeShapes Go.WideShapes Go.ChangeAt Go.RowKit Go.Joins Go.Deep
set_option maxRecDepth 100000 in
theorem holds_lifted (os : Os) (started : os.Started) (H : Type) (enc : TypeId × Value → H) :
    ReturnsInHanded {} Tryz.checked os 3 .any (fun w args => (Rows.catalogHoldsSpec.pre enc Tryz.prog Tryz.f3 [] false w args ∧ laidMetH Tryz.prog Rows.catalogHoldsRow.laid w) ∧ sizedMet enc Tryz.prog Tryz.f3 (OpenSpec.ofChange Rows.catalogHoldsSpec) false w args)
      (Rows.catalogHoldsSpec.post enc Tryz.prog Tryz.f3 false true false false) := by
  refine handed_shaped (C := Tryz.checked) (X := fun w _ => laidMetH Tryz.prog Rows.catalogHoldsRow.laid w) (fun _ _ _ hh h => h.of_heap hh) ownKnob25 started (by kernel_rfl) Tryz.func3
    (ChangeSpec.witness_shaped (enc := enc) (C := Tryz.checked) (os := os) (X := fun w _ => laidMetH Tryz.prog Rows.catalogHoldsRow.laid w) false (World.laidAll Tryz.prog os Rows.catalogHoldsRow.laid) #[.slice none 0 0] 8 (World.laidAll_os _ _ _)
      (World.shaped_of_ZipB (by kernel_rfl) (by kernel_rfl)) (by kernel_rfl) (by kernel_rfl) (by kernel_rfl)
      (by rw [MakeChecks.laidMetH_plain _ _ _ (by kernel_rfl)]; exact laidMet_laidAll _ (by kernel_rfl) (by kernel_rfl))) ?_
  intro W base args ds gs before hval0 hW _ hsz hlaid hsh _
  have hW' := hW
  obtain ⟨p, q, hA0, hV, rfl, hfz, hnd⟩ := hW
  have hA : DataW.TrodAll enc Tryz.prog W 0 (fun _ => true) true Tryz.f3.params.toList args.toList ds p := hA0
  rw [Tryz.params3] at hA
  obtain ⟨v0, d0, rfl, rfl, h0⟩ := trodAll_one hA
  obtain ⟨rfl, rfl⟩ := trodVars_none hV
  have P3 : Tryz.f3.params = #[22] := Tryz.params3
  have hw0 : ∀ k ∈ d0.weights Tryz.prog 22, k ≤ reachBytes := by
    intro k hk
    have hz := List.all_eq_true.1 hsz
    rw [P3] at hz
    exact of_decide_eq_true (hz k (DataW.weights_mem_each (j := 0) (t := 22) (d := d0) rfl rfl k hk))
  obtain ⟨vs, hR0⟩ : ∃ vs, InL W v0 vs := inL_of (hval0 0 22 v0 (by rw [P3]; rfl) rfl) h0 hw0
  have hlt0 : ∀ x ∈ p, x.block < W.heap.size := fun x hx => hW'.lt x (by simp [hx])
  have key : Calls Tryz.prog 3 #[v0] W fun e w' => e = .returned (.bool true) ∧ Ext W w' := holds_c v0 vs W hR0 (max0_of hsh) (tab10_of hlaid)
  refine key.mono fun e W' h => ?_
  obtain ⟨rfl, hE⟩ := h
  refine ⟨_, rfl, _, _, _, [], p, [], hW', trodAll_mk1 (shut_bool Tryz.underlying4 _), ?_, rfl, hE.frame _, fun h => by cases h⟩
  have : Tryz.f3.params.toList = [22] := by rw [P3]
  rw [this]
  exact trodAll_mk1 (Below.trod (by kernel_rfl) (by kernel_rfl) (of_decide_eq_true (by kernel_rfl)) h0 hE hlt0)
theorem holds_row : Rows.CatalogHoldsSaid :=
  OpenClaim.holds_of_wide 3 Tryz.f3 rfl rfl rfl rfl rfl rfl rfl ⟨rfl, rfl, rfl, rfl, rfl⟩ rfl rfl rfl rfl rfl (by kernel_rfl) Tryz.func3 (by kernel_rfl)
    (of_decide_eq_true (by kernel_rfl)) (by unfold Func.isWrapper; first | (rw [if_pos (by decide +kernel)]; kernel_rfl) | (rw [if_neg (by decide +kernel)]; exact ⟨rfl, rfl⟩))
    (fun os started H enc _ => holds_lifted os started H enc)
theorem holds_holds : Rows.CatalogHoldsCardSaid :=
  Claim7.holds_tied_plain_at .later [] [.data, .data, .data, .data, .sentinel, .sentinel, .pinned] true (true, "467df2a577e183530582c2fd9acd448e9f1fb72ebd22692cbfb33fd2037bf1eb") true
    holds_row (fun _ h => by cases h) (by kernel_rfl) (fun _ h => by cases h) catalogHolds_row_tie rfl ⟨rfl, rfl⟩ (by kernel_rfl) rfl
    (fun f fn hf hfn => by
      obtain rfl : f = 3 := Option.some.inj ((show Tryz.prog.funcNamed "polestar/polestarlaw25.CatalogHolds" = some 3 by kernel_rfl).symm.trans hf) |>.symm
      obtain rfl : fn = Tryz.f3 := (Option.some.inj (Tryz.func3.symm.trans hfn)).symm
      exact ⟨by kernel_rfl, fun j t ht => by
        rw [Tryz.params3] at ht
        have hm : t ∈ [22] := by simpa using Array.mem_of_getElem? ht
        have hall : ([22].all fun u => !Tryz.prog.wantsStandIn u) = true := by kernel_rfl
        exact (show Tryz.prog.wantsStandIn t = false by simpa using List.all_eq_true.1 hall t hm)⟩)
    (by kernel_rfl)
#print axioms holds_holds
end Go.Proofs.YtkkfgphcmnhabaaGreatDoor
