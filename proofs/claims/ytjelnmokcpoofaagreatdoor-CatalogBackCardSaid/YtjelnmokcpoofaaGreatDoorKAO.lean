/-
  The catalogue's Text. law25: what alive rests on, in plain words. law25: small, lens. law25: alive. law01: ElementCost, PartsCost; law25: fits. SamePart of two parts that are the same. law01: SameParts of two lists of the same parts. law25: what CatalogHolds rests on: lists that came in, read; lists that are told, read. law25: CatalogBack, walked.
-/
import Derived.Test.YtjelnmokcpoofaaGreatDoorKAN
import Derived.Test.YtjelnmokcpoofaaGreatDoorKAJ
import Derived.Test.YtjelnmokcpoofaaGreatDoorKAI
import Derived.Test.YtjelnmokcpoofaaGreatDoorKAF
import Derived.Test.YtjelnmokcpoofaaGreatDoorKAH
import Derived.Test.YtjelnmokcpoofaaGreatDoorKAK
import Derived.Test.YtjelnmokcpoofaaGreatDoorKAM
import Derived.Test.YtjelnmokcpoofaaGreatDoorKAG
import Derived.LoopN
namespace Go.Proofs.YtjelnmokcpoofaaGreatDoor
set_option maxRecDepth 100000
open Go Go.RowKit Go.Proofs Go.Lib
theorem ratText_len {x : Rat} (h : nf x ≤ 2048) : (ratText x).length ≤ 131077 := by
  have h1 := itoa_len x.num
  have h2 := itoa_len (x.den : Int)
  have h3 : nl x.num ≤ 2048 := Nat.le_trans (Nat.le_max_left _ _) h
  have h4 : nl (x.den : Int) ≤ 2048 := Nat.le_trans (Nat.le_max_right _ _) h
  unfold ratText
  split
  · omega
  · rw [List.length_append, List.length_cons]
    omega
theorem okPD.co {d : PD} (h : okPD d) : 0 ≤ d.co ∧ d.co ≤ 1073741824 := by
  have := h.2.2.2
  unfold mayP at this
  simp only [Bool.and_eq_true, decide_eq_true_eq] at this
  exact ⟨this.1, this.2.1⟩
theorem okPD.nm {d : PD} (h : okPD d) : d.nm.size ≤ 32 := by
  have := h.2.2.1
  unfold nameB at this
  simp only [Bool.and_eq_true, decide_eq_true_eq] at this
  have := this.2.1
  rw [Array.length_toList] at this
  exact this
theorem dec_small {n : Nat} (h : n ≤ 1073741824) : (decDigits n).length ≤ 32 := by
  rw [decDigits_length]
  exact nDig_le (k := 31) (by omega)
theorem headB_len {d : PD} (h : okPD d) : (headB d).length ≤ 73 := by
  obtain ⟨h1, h2⟩ := h.co
  have h3 := h.nm
  have h4 := wordB_len d.kd
  have h5 : (itoa d.co).length ≤ 32 := by
    unfold itoa
    rw [if_neg (by omega)]
    exact dec_small (by omega)
  unfold headB
  simp only [List.length_append, List.length_cons, Array.length_toList]
  have : d.nm.data.size = d.nm.size := rfl
  omega
theorem tailB_len : ∀ (l : List Rat), (∀ x ∈ l, nf x ≤ 2048) → (tailB l).length ≤ l.length * 131078
  | [], _ => by simp [tailB]
  | x :: r, h => by
    have ih := tailB_len r fun y hy => h y (List.mem_cons_of_mem _ hy)
    have h1 := ratText_len (h x (List.mem_cons_self ..))
    have : tailB (x :: r) = (32 :: ratText x) ++ tailB r := rfl
    rw [this, List.length_append, List.length_cons, List.length_cons]
    omega
theorem fracsB_ok {d : PD} (h : okPD d) : ∀ x ∈ fracsB d, nf x ≤ 2048 := by
  intro x hx
  have := List.mem_of_mem_take hx
  simp only [List.mem_cons, List.not_mem_nil, or_false] at this
  rcases this with rfl | rfl
  · exact h.1
  · exact h.2.1
theorem fracsB_len (d : PD) : (fracsB d).length = wordN d.kd := by
  unfold fracsB
  rw [List.length_take]
  have := wordN_le d.kd
  simp only [List.length_cons, List.length_nil]
  omega
theorem lineB_len {d : PD} (h : okPD d) : (lineB d).length ≤ 262300 := by
  have h1 := headB_len h
  have h2 := tailB_len (fracsB d) (fracsB_ok h)
  rw [fracsB_len] at h2
  have := wordN_le d.kd
  unfold lineB
  simp only [List.length_append, List.length_cons, List.length_nil]
  omega
theorem textB_len : ∀ (L : List PD), (∀ d ∈ L, okPD d) → (textB L).length ≤ L.length * 262300
  | [], _ => by simp [textB]
  | d :: r, h => by
    have ih := textB_len r fun y hy => h y (List.mem_cons_of_mem _ hy)
    have h1 := lineB_len (h d (List.mem_cons_self ..))
    have : textB (d :: r) = lineB d ++ textB r := rfl
    rw [this, List.length_append, List.length_cons]
    omega
theorem PartR.pq {w : World} {d : PD} {p q : FV} (h : PartR w (.agg #[.string d.nm, .int .u8 d.kd, .bool p.b1, .slice p.a1 p.n1 p.c1, .bool p.b2, .slice p.a2 p.n2 p.c2, .bool q.b1, .slice q.a1 q.n1 q.c1, .bool q.b2, .slice q.a2 q.n2 q.c2, .int .i64 d.co]) d) : FracR w (.agg #[.bool p.b1, .slice p.a1 p.n1 p.c1, .bool p.b2, .slice p.a2 p.n2 p.c2]) d.p ∧ FracR w (.agg #[.bool q.b1, .slice q.a1 q.n1 q.c1, .bool q.b2, .slice q.a2 q.n2 q.c2]) d.q := by
  obtain ⟨_, _, _, _, _, _, _, _, _, _, _, _, _, _, _, _, e, h1, h2⟩ := h
  simp only [Value.agg.injEq, Array.mk.injEq, List.cons.injEq, and_true, Value.bool.injEq, Value.slice.injEq, true_and] at e
  obtain ⟨rfl, ⟨rfl, rfl, rfl⟩, rfl, ⟨rfl, rfl, rfl⟩, rfl, ⟨rfl, rfl, rfl⟩, rfl, rfl, rfl, rfl⟩ := e
  exact ⟨h1, h2⟩
theorem head_str {d : PD} {n : Nat} (hn : d.co = n) {S1 S2 S3 S4 : ByteArray} (h1 : S1 = d.nm ++ ⟨#[32]⟩) (h2 : S2 = S1 ++ ⟨(decDigits n).toArray⟩) (h3 : S3 = S2 ++ ⟨#[32]⟩) (h4 : S4 = S3 ++ ⟨(wordB d.kd).toArray⟩) : Lib.strCells S4 = byteCells (headB d) := by
  rw [Lib.strCells_eq]
  congr 1
  subst h4 h3 h2 h1
  unfold headB itoa
  rw [hn, if_neg (by omega)]
  simp [ByteArray.data_append]
theorem cat_cells (a b : List UInt8) : byteCells a ++ byteCells b = byteCells (a ++ b) := by simp [byteCells]
theorem sp_cells (l : List UInt8) : Lib.strCells ((⟨#[32]⟩ : ByteArray) ++ ⟨l.toArray⟩) = byteCells (32 :: l) := by
  rw [Lib.strCells_eq]
  congr 1
theorem fracs_at {d : PD} {p q : FV} {i : Nat} (hi : i < (fracsB d).length) : ∃ (x : Rat) (f : FV), (fracsB d)[i] = x ∧ (#[.bool p.b1, .slice p.a1 p.n1 p.c1, .bool p.b2, .slice p.a2 p.n2 p.c2, .bool q.b1, .slice q.a1 q.n1 q.c1, .bool q.b2, .slice q.a2 q.n2 q.c2] : Array Value).extract (i * 4) (i * 4 + (#[.bool f.b1, .slice f.a1 f.n1 f.c1, .bool f.b2, .slice f.a2 f.n2 f.c2] : Array Value).size) = #[.bool f.b1, .slice f.a1 f.n1 f.c1, .bool f.b2, .slice f.a2 f.n2 f.c2] ∧ ∀ W, (FracR W (.agg #[.bool p.b1, .slice p.a1 p.n1 p.c1, .bool p.b2, .slice p.a2 p.n2 p.c2]) d.p ∧ FracR W (.agg #[.bool q.b1, .slice q.a1 q.n1 q.c1, .bool q.b2, .slice q.a2 q.n2 q.c2]) d.q) → FracR W (.agg #[.bool f.b1, .slice f.a1 f.n1 f.c1, .bool f.b2, .slice f.a2 f.n2 f.c2]) x := by
  have h2 : i < 2 := by have := fracsB_len d; have := wordN_le d.kd; omega
  unfold fracsB at hi ⊢
  rcases (show i = 0 ∨ i = 1 by omega) with rfl | rfl
  · exact ⟨d.p, p, by simp, rfl, fun W h => h.1⟩
  · exact ⟨d.q, q, by simp, rfl, fun W h => h.2⟩
def TxtR (wA : World) (lo b : Nat) (os : List (PD × Value)) (t16 : Value) (wr : World) : Prop :=
  ∃ k : Nat, k ≤ os.length ∧ t16 = .int .i64 k ∧ IsBuilt lo b (byteCells (textB ((os.take k).map (·.1)))) wr ∧ Chg wA wr (bS b lo)
def InR (wB : World) (lo b : Nat) (acc : List UInt8) (fs : List Rat) (t48 : Value) (wr : World) : Prop :=
  ∃ i : Nat, i ≤ fs.length ∧ t48 = .int .i64 i ∧ IsBuilt lo b (byteCells (acc ++ tailB (fs.take i))) wr ∧ Chg wB wr (bS b lo) ∧ Keeps b wB wr
def TextQ (w : World) (es : List (PD × Value)) (e : Ending) (w' : World) : Prop :=
  e = .returned (if (textB (es.map (·.1))).length ≤ 65536 then .tuple #[.string ⟨(textB (es.map (·.1))).toArray⟩, .int .i64 0] else .tuple #[.string ⟨#[]⟩, .int .i64 4]) ∧ Ext w w'
set_option maxHeartbeats 3200000 in
theorem text_l (w : World) (g M : Nat) (es : List (PD × Value)) (h : Cat w g M es) (ht : Tab10 w) :
    Calls Tryz.prog 8 #[.pointer (some ⟨g, 0, none⟩)] w (TextQ w es) := by
  obtain ⟨w1, hw1⟩ : ∃ w1, w1 = w.alloc (.cells #[.pointer none, .slice none 0 0] 65) := ⟨_, rfl⟩
  have hE1 : Ext w w1 := by rw [hw1]; exact (Ext.refl w).al _
  have hsz : w1.heap.size = w.heap.size + 1 := by rw [hw1]; simp
  have z1 : w1.heap[w.heap.size]? = some (.cells #[.pointer none, .slice none 0 0] 65 (0, 0)) := by rw [hw1]; exact heap_alloc_new _ _
  have hG := mkHid (gone_l g M w h.str)
  have hA := mkHid (all_l w1 g M es (h.ext hE1))
  have hok := mkHid h.ok
  have hfew := mkHid h.few
  have hT := mkHid (fun W (e : Ext w W) => tab_ext ht e)
  replace hw1 := mkHid hw1
  replace hE1 := mkHid hE1
  replace z1 := mkHid z1
  replace hsz := mkHid hsz
  clear h ht
  go_enter Tryz.func8, Tryz.ntmps8
  have tok : Tok 0 := .mk _
  go_wp2_with (first
    | ((have _t : Tok 0 := tok); clear _t; clear tok; (have tok : Tok 1 := .mk _); go_at_call 18; refine hG.out.mono ?_; rintro e w' ⟨rfl, rfl⟩)
    | ((have _t : Tok 1 := tok); clear _t; clear tok; (have tok : Tok 2 := .mk _); go_at_call 10; rw [← hw1.out]; refine hA.out.mono ?_; rintro e wA ⟨v, os, rfl, hO, hmap, hxA⟩; (obtain ⟨a, c, rfl, ha⟩ := hO.slice); replace hO := mkHid hO; replace hmap := mkHid hmap; replace hxA := mkHid hxA; replace ha := mkHid ha))
  clear tok hG hA
  have hol : os.length ≤ 64 := by
    have h1 := congrArg List.length hmap.out
    rw [List.length_map, List.length_map] at h1
    have := hfew.out
    omega
  have hoks : ∀ x ∈ os, okPD x.1 := by
    intro x hx
    have h1 : x.1 ∈ os.map (·.1) := List.mem_map.2 ⟨x, hx, rfl⟩
    rw [hmap.out] at h1
    obtain ⟨z, hz, e⟩ := List.mem_map.1 h1
    rw [← e]
    exact hok.out z hz
  have hba : w.heap.size < wA.heap.size := by have := hxA.out.size; have := hsz.out; omega
  have st : TxtR wA wA.heap.size w.heap.size os (.int .i64 0) wA := ⟨0, Nat.zero_le _, rfl, built_fresh hba (hxA.out.blk z1.out), Chg.refl _ _⟩
  replace st := mkHid st
  replace hoks := mkHid hoks
  go_loopw [16] (fun t16 wr => TxtR wA wA.heap.size w.heap.size os t16 wr) (fun t16 _ => os.length - (intOf t16).toNat)
  case atStart => exact st.out
  case round =>
    clear st
    obtain ⟨k, hk, rfl, hB, hch⟩ := hrel
    obtain ⟨w2, rfl⟩ : ∃ w2 : World, w2 = wr := ⟨_, rfl⟩
    have hEw : Ext w w2 := hch.ext w (hE1.out.trans hxA.out) fun k hk hs => by
      rcases hs with rfl | hs
      · omega
      · omega
    by_cases hlt : k < os.length
    · obtain ⟨gL, rfl⟩ := ha.out (by intro e; rw [e] at hlt; simp at hlt)
      obtain ⟨-, -, -, hlo, rest, -, hrow⟩ := hO.out.rowC
      have hgA : gL < wA.heap.size := (Array.getElem?_eq_some_iff.1 hrow).1
      have hrow2 := mkHid ((hch.block gL hgA (by rintro (rfl | h); (have := hsz.out; omega); omega)).trans hrow)
      obtain ⟨d, v, hdv⟩ : ∃ d v, os[k] = (d, v) := ⟨_, _, rfl⟩
      have hmem : (d, v) ∈ os := by rw [← hdv]; exact List.getElem_mem hlt
      have hPA := hO.out.part _ hmem
      have hP2 := hPA.near (w' := w2) fun y hy => hch.block y (hPA.span y hy).2 (by
        have h1 := (hPA.span y hy).1
        have h2 := (hPA.span y hy).2
        have := hsz.out
        rintro (rfl | h3) <;> omega)
      obtain ⟨p, q, e0, hfp, hfq⟩ := hP2.r.fv
      have e0' : v = .agg #[.string d.nm, .int .u8 d.kd, .bool p.b1, .slice p.a1 p.n1 p.c1, .bool p.b2, .slice p.a2 p.n2 p.c2, .bool q.b1, .slice q.a1 q.n1 q.c1, .bool q.b2, .slice q.a2 q.n2 q.c2, .int .i64 d.co] := e0
      subst e0'
      have hx := mkHid (row_extract hO.out.allV hlt rest (sub := #[.string d.nm, .int .u8 d.kd, .bool p.b1, .slice p.a1 p.n1 p.c1, .bool p.b2, .slice p.a2 p.n2 p.c2, .bool q.b1, .slice q.a1 q.n1 q.c1, .bool q.b2, .slice q.a2 q.n2 q.c2, .int .i64 d.co]) (by rw [hdv]))
      have hokd : okPD d := hoks.out _ hmem
      obtain ⟨hco0, hco1⟩ := hokd.co
      obtain ⟨n, hn⟩ : ∃ n : Nat, d.co = n := ⟨d.co.toNat, by omega⟩
      have hn1 : n ≤ 1073741824 := by omega
      obtain ⟨w3, hw3⟩ : ∃ w3, w3 = (w2.alloc (.cells #[.string ⟨#[]⟩, .int .u8 0, .bool false, .slice none 0 0, .bool false, .slice none 0 0, .bool false, .slice none 0 0, .bool false, .slice none 0 0, .int .i64 0] 56)).setRow w2.heap.size #[.string d.nm, .int .u8 d.kd, .bool p.b1, .slice p.a1 p.n1 p.c1, .bool p.b2, .slice p.a2 p.n2 p.c2, .bool q.b1, .slice q.a1 q.n1 q.c1, .bool q.b2, .slice q.a2 q.n2 q.c2, .int .i64 d.co] := ⟨_, rfl⟩
      have hE3 : Ext w2 w3 := by rw [hw3]; exact ((Ext.refl w2).al _).row (Nat.le_refl _) _
      have z3 := mkHid (show w3.heap[w2.heap.size]? = some (.cells #[.string d.nm, .int .u8 d.kd, .bool p.b1, .slice p.a1 p.n1 p.c1, .bool p.b2, .slice p.a2 p.n2 p.c2, .bool q.b1, .slice q.a1 q.n1 q.c1, .bool q.b2, .slice q.a2 q.n2 q.c2, .int .i64 d.co] 56 (0, 0)) by rw [hw3]; exact setRow_heap _ _ _ _ _ _ (heap_alloc_new _ _))
      have y3 : w3.cell? ⟨w2.heap.size, 1, none⟩ = some (.int .u8 d.kd) := row16_cells z3.out 1
      have hW := mkHid (fun W => word_c d.kd W)
      have hlt' : (k : Int) < (os.length : Int) := by omega
      have hN2 : ((wordN d.kd : Nat) : Int) ≤ 2 := by have := wordN_le d.kd; omega
      replace hB := mkHid hB
      replace hch := mkHid hch
      replace hEw := mkHid hEw
      replace hw3 := mkHid hw3
      replace hE3 := mkHid hE3
      replace hdv := mkHid hdv
      have hFR := mkHid (fun W (e : Chg wA W (bS w.heap.size wA.heap.size)) => (hPA.near (w' := W) fun y hy => e.block y (hPA.span y hy).2 (by
        have h1 := (hPA.span y hy).1
        have h2 := (hPA.span y hy).2
        have := hsz.out
        rintro (rfl | h3) <;> omega)).r.pq)
      clear hfp hfq
      replace hokd := mkHid hokd
      replace hn := mkHid hn
      clear e0 hP2 hPA hmem hco0 hco1 hrow hlo
      have tok : Tok 0 := .mk _
      go_wp2_with (first
        | ((have _t : Tok 0 := tok); clear _t; clear tok; (have tok : Tok 1 := .mk _); refine wpList_load_sub (by rfl) 56 (.tmp 18) rfl gL (k * 11) ?zz 56 _ #[.string d.nm, .int .u8 d.kd, .bool p.b1, .slice p.a1 p.n1 p.c1, .bool p.b2, .slice p.a2 p.n2 p.c2, .bool q.b1, .slice q.a1 q.n1 q.c1, .bool q.b2, .slice q.a2 q.n2 q.c2, .int .i64 d.co] (0, 0) _ hrow2.out hx.out Tryz.underlying56 rfl (by kernel_rfl) ?_; (case zz => rfl))
        | ((have _t : Tok 1 := tok); clear _t; clear tok; (have tok : Tok 2 := .mk _); refine wpList_store_row rfl 56 (.tmp 6) (.tmp 19) rfl w2.heap.size #[.string d.nm, .int .u8 d.kd, .bool p.b1, .slice p.a1 p.n1 p.c1, .bool p.b2, .slice p.a2 p.n2 p.c2, .bool q.b1, .slice q.a1 q.n1 q.c1, .bool q.b2, .slice q.a2 q.n2 q.c2, .int .i64 d.co] rfl rfl 56 _ (heap_alloc_new _ _) (by kernel_rfl) rfl (by kernel_rfl) ?_; rw [← hw3.out])
        | ((have _t : Tok 2 := tok); clear _t; clear tok; (have tok : Tok 3 := .mk _); go_at_call 19; refine (hW.out _).mono ?_; rintro e w4 ⟨rfl, rfl⟩))
      clear tok
      have hnm := hokd.out.nm
      have hdl := dec_small hn1
      have hwl := wordB_len d.kd
      have hL1 := mkHid (show ¬ 9223372036854775807 < d.nm.size + 1 by omega)
      have hL2 := mkHid (show ¬ 9223372036854775807 < d.nm.size + 1 + (decDigits n).length by omega)
      have hL3 := mkHid (show ¬ 9223372036854775807 < d.nm.size + 1 + (decDigits n).length + 1 by omega)
      have hL4 := mkHid (show ¬ 9223372036854775807 < d.nm.size + 1 + (decDigits n).length + 1 + (wordB d.kd).length by omega)
      have hEw3 := mkHid (hEw.out.trans hE3.out)
      have hI := mkHid (fun W (e : Ext w W) => itoa_c n W (by omega) (hT.out W e))
      obtain ⟨S1, hS1⟩ : ∃ S, S = d.nm ++ ⟨#[32]⟩ := ⟨_, rfl⟩
      obtain ⟨S2, hS2⟩ : ∃ S, S = S1 ++ ⟨(decDigits n).toArray⟩ := ⟨_, rfl⟩
      obtain ⟨S3, hS3⟩ : ∃ S, S = S2 ++ ⟨#[32]⟩ := ⟨_, rfl⟩
      obtain ⟨S4, hS4⟩ : ∃ S, S = S3 ++ ⟨(wordB d.kd).toArray⟩ := ⟨_, rfl⟩
      have hz1 := mkHid (show S1.size = d.nm.size + 1 by rw [hS1, ByteArray.size_append]; rfl)
      have hz2 := mkHid (show S2.size = d.nm.size + 1 + (decDigits n).length by rw [hS2, ByteArray.size_append, hz1.out]; exact congrArg _ List.size_toArray)
      have hz3 := mkHid (show S3.size = d.nm.size + 1 + (decDigits n).length + 1 by rw [hS3, ByteArray.size_append, hz2.out]; rfl)
      replace hS1 := mkHid hS1
      replace hS2 := mkHid hS2
      replace hS3 := mkHid hS3
      replace hS4 := mkHid hS4
      clear hnm hdl hwl
      apply region_ext [.val (.pointer (some ⟨w2.heap.size, 0, none⟩)), .val (.string d.nm), .val (.string S1), .val (.pointer (some ⟨w2.heap.size, 10, none⟩)), .val (.int .i64 n), .val (.string ⟨(decDigits n).toArray⟩), .val (.string S2), .val (.string S3), .val (.string ⟨(wordB d.kd).toArray⟩), .val (.string S4)] (by kernel_rfl) (stable_vals _ (stable_vals _ (stable_vals _ (stable_vals _ (stable_vals _ (stable_vals _ (stable_vals _ (stable_vals _ (stable_vals _ (stable_vals _ trivial))))))))))
      refine ⟨fun W hW _ => by go_simp; first | exact ⟨Ext.refl _, rfl⟩ | exact Ext.refl _, ?_⟩
      refine ⟨fun W hW _ => by have := row16_cells (hW.blk z3.out) 0; go_simp; first | exact ⟨Ext.refl _, rfl⟩ | exact Ext.refl _, ?_⟩
      refine ⟨fun W hW _ => ?s1, ?_⟩
      case s1 =>
        go_simp
        rw [if_neg hL1.out, ← hS1.out]
        exact ⟨Ext.refl _, rfl⟩
      refine ⟨fun W hW _ => by go_simp; first | exact ⟨Ext.refl _, rfl⟩ | exact Ext.refl _, ?_⟩
      refine ⟨fun W hW _ => ?s4, ?_⟩
      case s4 =>
        have hc := row16_cells (hW.blk z3.out) 10
        replace hc : W.cell? ⟨w2.heap.size, 10, none⟩ = some (.int .i64 n) := by rw [hc, ← hn.out]; rfl
        go_simp
        first | exact ⟨Ext.refl _, rfl⟩ | exact Ext.refl _
      refine ⟨fun W hW _ => ?s5, ?_⟩
      case s5 =>
        go_simp
        refine (hI.out W (hEw3.out.trans hW)).mono ?_
        rintro e w' ⟨rfl, h1⟩
        exact ⟨rfl, h1⟩
      refine ⟨fun W hW _ => ?s6, ?_⟩
      case s6 =>
        go_simp
        rw [hz1.out, if_neg hL2.out, ← hS2.out]
        exact ⟨Ext.refl _, rfl⟩
      refine ⟨fun W hW _ => ?s7, ?_⟩
      case s7 =>
        go_simp
        rw [hz2.out, if_neg hL3.out, ← hS3.out]
        exact ⟨Ext.refl _, rfl⟩
      refine ⟨fun W hW _ => by go_simp; first | exact ⟨Ext.refl _, rfl⟩ | exact Ext.refl _, ?_⟩
      refine ⟨fun W hW _ => ?s9, fun W hW _ => ?fin⟩
      case s9 =>
        go_simp
        rw [hz3.out, if_neg hL4.out, ← hS4.out]
        exact ⟨Ext.refl _, rfl⟩
      case fin =>
        have hTl := textB_len ((os.take k).map (·.1)) (by intro y hy; obtain ⟨z, hz, rfl⟩ := List.mem_map.1 hy; exact hoks.out z (List.mem_of_mem_take hz))
        rw [List.length_map, List.length_take] at hTl
        generalize hTT : textB ((os.take k).map (·.1)) = TT at *
        have hTT64 : TT.length ≤ 64 * 262300 := Nat.le_trans hTl (Nat.mul_le_mul_right _ (by omega))
        have hhl := headB_len hokd.out
        have hS4c := head_str hn.out hS1.out hS2.out hS3.out hS4.out
        have hS4z : S4.size = (headB d).length := by
          have := congrArg List.length hS4c
          rw [Lib.strCells_length, byteCells_length] at this
          exact this
        have hcAW : Chg wA W (bS w.heap.size wA.heap.size) := hch.out.trans (Chg.of_ext (hE3.out.trans hW) _)
        have BW := mkHid (bwrite2 wA.heap.size w.heap.size (byteCells TT) S4 W (hB.out.ext (hE3.out.trans hW)) (by rw [byteCells_length, hS4z]; omega) (by have := hcAW.size; omega))
        have hzW := mkHid (hW.blk z3.out)
        have hbw2 := mkHid (show w2.heap.size ≠ w.heap.size by have := hch.out.size; omega)
        replace hcAW := mkHid hcAW
        replace hS4c := mkHid hS4c
        replace hTT := mkHid hTT
        replace hTT64 := mkHid hTT64
        replace hhl := mkHid hhl
        clear hTl hW hS4z
        go_simp
        have tok : Tok 20 := .mk _
        go_wp2_with (first
          | ((have _t : Tok 20 := tok); clear _t; clear tok; (have tok : Tok 21 := .mk _); go_at_call 20; refine BW.out.mono ?_; rintro e w5 ⟨rfl, hB5, hC5, hK5⟩; (have z5 := mkHid (hK5 _ _ _ _ hbw2.out (by decide) hzW.out)); replace hB5 := mkHid hB5; replace hC5 := mkHid (hcAW.out.trans hC5); clear hK5)
          | ((have _t : Tok 21 := tok); clear _t; clear tok; (have tok : Tok 22 := .mk _); refine wpList_load_sub (by rfl) 52 (.tmp 39) rfl w2.heap.size 2 ?zya 56 _ #[.bool p.b1, .slice p.a1 p.n1 p.c1, .bool p.b2, .slice p.a2 p.n2 p.c2] (0, 0) _ z5.out ?zyb Tryz.underlying52 rfl (by kernel_rfl) ?_; (case zya => rfl); (case zyb => rfl))
          | ((have _t : Tok 22 := tok); clear _t; clear tok; (have tok : Tok 23 := .mk _); refine wpList_load_sub (by rfl) 52 (.tmp 42) rfl w2.heap.size 6 ?zyc 56 _ #[.bool q.b1, .slice q.a1 q.n1 q.c1, .bool q.b2, .slice q.a2 q.n2 q.c2] (0, 0) _ z5.out ?zyd Tryz.underlying52 rfl (by kernel_rfl) ?_; (case zyc => rfl); (case zyd => rfl)))
        clear tok
        obtain ⟨w6, hw6⟩ : ∃ w6, w6 = w5.alloc (.cells #[.bool p.b1, .slice p.a1 p.n1 p.c1, .bool p.b2, .slice p.a2 p.n2 p.c2, .bool q.b1, .slice q.a1 q.n1 q.c1, .bool q.b2, .slice q.a2 q.n2 q.c2] 52) := ⟨_, rfl⟩
        rw [← hw6]
        have hx6 : Ext w5 w6 := by rw [hw6]; exact (Ext.refl _).al _
        have z6 := mkHid (show w6.heap[w5.heap.size]? = some (.cells #[.bool p.b1, .slice p.a1 p.n1 p.c1, .bool p.b2, .slice p.a2 p.n2 p.c2, .bool q.b1, .slice q.a1 q.n1 q.c1, .bool q.b2, .slice q.a2 q.n2 q.c2] 52 (0, 0)) by rw [hw6]; exact heap_alloc_new _ _)
        have hC6 := mkHid (hC5.out.trans (Chg.of_ext hx6 _))
        have hb5 := mkHid (show w5.heap.size ≠ w.heap.size by have := hC5.out.size; omega)
        have hB6 := hB5.out.ext hx6
        rw [hS4c.out, cat_cells] at hB6
        obtain ⟨acc, hacc⟩ : ∃ acc, acc = TT ++ headB d := ⟨_, rfl⟩
        rw [← hacc] at hB6
        have hal : acc.length ≤ 64 * 262300 + 73 := by rw [hacc, List.length_append]; have := hTT64.out; have := hhl.out; omega
        have hfl := mkHid (fracsB_len d)
        have hfo := mkHid (fracsB_ok hokd.out)
        have hfa := mkHid (fun (i : Nat) (hi : i < (fracsB d).length) => fracs_at (p := p) (q := q) hi)
        replace hw6 := mkHid hw6
        replace hacc := mkHid hacc
        replace hal := mkHid hal
        have st : InR w6 wA.heap.size w.heap.size acc (fracsB d) (.int .i64 0) w6 := ⟨0, Nat.zero_le _, rfl, by simpa [tailB] using hB6, Chg.refl _ _, Keeps.ext (Ext.refl _)⟩
        replace st := mkHid st
        clear hx6 hB6 BW hB5 hC5 z5 hzW
        go_loopw [48] (fun t48 wr => InR w6 wA.heap.size w.heap.size acc (fracsB d) t48 wr) (fun t48 _ => wordN d.kd - (intOf t48).toNat)
        case atStart => exact st.out
        case round =>
          clear st
          obtain ⟨i, hi, rfl, hBi, hCi, hKi⟩ := hrel
          obtain ⟨w7, rfl⟩ : ∃ w7 : World, w7 = wr := ⟨_, rfl⟩
          rw [hfl.out] at hi
          by_cases hil : i < wordN d.kd
          · obtain ⟨x, f, hxi, hex, hff⟩ := hfa.out i (by rw [hfl.out]; exact hil)
            have hC7 := hC6.out.trans hCi
            have hEw7 : Ext w w7 := hC7.ext w (hE1.out.trans hxA.out) fun k hk hs => by rcases hs with rfl | hs <;> omega
            have hz7 := mkHid (hKi _ _ _ _ hb5.out (by decide) z6.out)
            obtain ⟨w8, hw8⟩ : ∃ w8, w8 = (w7.alloc (.cells #[.bool false, .slice none 0 0, .bool false, .slice none 0 0] 52)).setRow w7.heap.size #[.bool f.b1, .slice f.a1 f.n1 f.c1, .bool f.b2, .slice f.a2 f.n2 f.c2] := ⟨_, rfl⟩
            have hE8 : Ext w7 w8 := by rw [hw8]; exact ((Ext.refl w7).al _).row (Nat.le_refl _) _
            have z8 := mkHid (show w8.heap[w7.heap.size]? = some (.cells #[.bool f.b1, .slice f.a1 f.n1 f.c1, .bool f.b2, .slice f.a2 f.n2 f.c2] 52 (0, 0)) by rw [hw8]; exact setRow_heap _ _ _ _ _ _ (heap_alloc_new _ _))
            have hxm : x ∈ fracsB d := by rw [← hxi]; exact List.getElem_mem _
            have hxn := hfo.out x hxm
            have hDg := mkHid (ratDigits_c (.agg #[.bool f.b1, .slice f.a1 f.n1 f.c1, .bool f.b2, .slice f.a2 f.n2 f.c2]) x w8 (Nat.le_trans hxn (by decide)) ((hff w7 (hFR.out w7 hC7)).ext hE8) (hT.out _ (hEw7.trans hE8)))
            have hrl := ratText_len hxn
            have hLx := mkHid (show ¬ 9223372036854775807 < 1 + (ratText x).length by omega)
            have htl := tailB_len ((fracsB d).take i) fun y hy => hfo.out y (List.mem_of_mem_take hy)
            have htk : tailB ((fracsB d).take (i + 1)) = tailB ((fracsB d).take i) ++ (32 :: ratText x) := by
              rw [List.take_succ_eq_append_getElem (by rw [hfl.out]; exact hil), hxi]
              simp [tailB]
            have htl2 : (tailB ((fracsB d).take i)).length ≤ 2 * 131078 := Nat.le_trans htl (Nat.mul_le_mul_right _ (by rw [List.length_take]; have := wordN_le d.kd; omega))
            have hil' : (i : Int) < ((wordN d.kd : Nat) : Int) := by omega
            have hsA : wA.heap.size ≤ w8.heap.size := Nat.le_trans hC7.size hE8.size
            have BX := mkHid (fun W (e : Ext w8 W) => bwrite2 wA.heap.size w.heap.size (byteCells (acc ++ tailB ((fracsB d).take i))) (⟨#[32]⟩ ++ ⟨(ratText x).toArray⟩) W (hBi.ext (hE8.trans e)) (by rw [byteCells_length, List.length_append, ByteArray.size_append]; show _ + _ + (1 + (ratText x).toArray.size) ≤ _; rw [List.size_toArray]; have := hal.out; omega) (Nat.le_trans hsA e.size))
            replace hex := mkHid hex
            replace hBi := mkHid hBi
            replace hCi := mkHid hCi
            replace hKi := mkHid hKi
            replace hw8 := mkHid hw8
            replace hE8 := mkHid hE8
            replace htk := mkHid htk
            clear hff hxi hxm hxn hrl htl htl2 hC7 hEw7 hsA
            have tok : Tok 30 := .mk _
            go_wp2_with (first
              | ((have _t : Tok 30 := tok); clear _t; clear tok; (have tok : Tok 31 := .mk _); refine wpList_load_sub (by rfl) 52 (.tmp 50) rfl w5.heap.size (i * 4) ?zxa 52 _ #[.bool f.b1, .slice f.a1 f.n1 f.c1, .bool f.b2, .slice f.a2 f.n2 f.c2] (0, 0) _ hz7.out hex.out Tryz.underlying52 rfl (by kernel_rfl) ?_; (case zxa => rfl))
              | ((have _t : Tok 31 := tok); clear _t; clear tok; (have tok : Tok 32 := .mk _); refine wpList_store_row rfl 52 (.tmp 10) (.tmp 51) rfl w7.heap.size #[.bool f.b1, .slice f.a1 f.n1 f.c1, .bool f.b2, .slice f.a2 f.n2 f.c2] rfl rfl 52 _ (heap_alloc_new _ _) (by kernel_rfl) rfl (by kernel_rfl) ?_; rw [← hw8.out])
              | ((have _t : Tok 32 := tok); clear _t; clear tok; (have tok : Tok 33 := .mk _); refine wpList_load_row (by rfl) 52 (.tmp 10) rfl w7.heap.size rfl 52 #[.bool f.b1, .slice f.a1 f.n1 f.c1, .bool f.b2, .slice f.a2 f.n2 f.c2] (0, 0) _ z8.out Tryz.underlying52 rfl (by kernel_rfl) ?_)
              | ((have _t : Tok 33 := tok); clear _t; clear tok; (have tok : Tok 34 := .mk _); go_at_call 22; refine hDg.out.mono ?_; rintro e w9 ⟨rfl, hx9⟩; (have hLx2 := hLx.out); (have BY := mkHid (BX.out w9 hx9)); replace hx9 := mkHid hx9)
              | ((have _t : Tok 34 := tok); clear _t; clear tok; (have tok : Tok 35 := .mk _); go_at_call 20; refine BY.out.mono ?_; rintro e w10 ⟨rfl, hB10, hC10, hK10⟩; replace hB10 := mkHid hB10; replace hC10 := mkHid hC10; replace hK10 := mkHid hK10))
            refine ⟨⟨i + 1, by rw [hfl.out]; omega, by go_num, ?_, hCi.out.trans ((Chg.of_ext (hE8.out.trans hx9.out) _).trans hC10.out), hKi.out.trans ((Keeps.ext (hE8.out.trans hx9.out)).trans hK10.out)⟩, by simp [intOf]; omega⟩
            have hb := hB10.out
            rw [sp_cells, cat_cells, List.append_assoc, ← htk.out] at hb
            exact hb
          · have hin : i = (fracsB d).length := by rw [hfl.out]; omega
            subst hin
            rw [List.take_length] at hBi
            have hC7 := hC6.out.trans hCi
            have htl := tailB_len (fracsB d) hfo.out
            rw [hfl.out] at htl
            have htl2 : (tailB (fracsB d)).length ≤ 2 * 131078 := Nat.le_trans htl (Nat.mul_le_mul_right _ (wordN_le d.kd))
            have BN := mkHid (bwrite2 wA.heap.size w.heap.size (byteCells (acc ++ tailB (fracsB d))) ⟨#[10]⟩ w7 hBi (by rw [byteCells_length, List.length_append]; show _ + _ + 1 ≤ _; have := hal.out; omega) hC7.size)
            have hii : ((fracsB d).length : Int) = ((wordN d.kd : Nat) : Int) := by rw [hfl.out]
            replace hii := mkHid hii
            replace hC7 := mkHid hC7
            rw [hfl.out]
            clear hBi hCi hKi hi hil htl htl2
            have tok : Tok 40 := .mk _
            go_wp2_with ((have _t : Tok 40 := tok); clear _t; clear tok; (have tok : Tok 41 := .mk _); go_at_call 20; refine BN.out.mono ?_; rintro e w8 ⟨rfl, hB8, hC8, hK8⟩; replace hB8 := mkHid hB8; replace hC8 := mkHid (hC7.out.trans hC8); clear hK8)
            refine ⟨⟨k + 1, by omega, by go_num, ?_, hC8.out⟩, by simp [intOf]; omega⟩
            have hb := hB8.out
            rw [show Lib.strCells ⟨#[10]⟩ = byteCells [10] by rw [Lib.strCells_eq], cat_cells, hacc.out] at hb
            have he : textB ((os.take (k + 1)).map (·.1)) = TT ++ headB d ++ tailB (fracsB d) ++ [10] := by
              rw [List.take_succ_eq_append_getElem hlt, hdv.out, List.map_append]
              have : textB ((os.take k).map (·.1) ++ [d]) = textB ((os.take k).map (·.1)) ++ lineB d := by simp [textB]
              show textB ((os.take k).map (·.1) ++ [d]) = _
              rw [this, hTT.out]
              simp [lineB]
            rw [he]
            exact hb
    · have hkn : k = os.length := by omega
      subst hkn
      rw [List.take_length, hmap.out] at hB
      have BL := mkHid (Tryz.Builder_Len w.heap.size w.heap.size _ w2 hB.is)
      have BS := mkHid (Tryz.Builder_String_any w.heap.size w.heap.size (textB (es.map (·.1))) w2 hB.is hEw.size)
      generalize hTT : textB (es.map (·.1)) = TT at *
      have hbl : (byteCells TT).length = TT.length := byteCells_length _
      rw [hbl] at BL
      replace hEw := mkHid hEw
      replace hTT := mkHid hTT
      clear hbl hB hch hk
      by_cases hbig : TT.length ≤ 65536
      · have hb1 : ¬ ((65536 : Int) < (TT.length : Int)) := by omega
        have hqq := mkHid (fun w' (e : Ext w w') => (show TextQ w es (.returned (.tuple #[.string ⟨TT.toArray⟩, .int .i64 0])) w' from ⟨by rw [hTT.out, if_pos hbig], e⟩))
        clear hbig
        have tok : Tok 50 := .mk _
        go_wp2_with (first
          | ((have _t : Tok 50 := tok); clear _t; clear tok; (have tok : Tok 51 := .mk _); go_at_call 23; refine BL.out.mono ?_; rintro e w8 ⟨rfl, rfl⟩)
          | ((have _t : Tok 51 := tok); clear _t; clear tok; (have tok : Tok 52 := .mk _); go_at_call 24; refine BS.out.mono ?_; rintro e w9 ⟨rfl, hx9⟩; replace hx9 := mkHid hx9))
        go_ret2
        exact hqq.out _ (Below.trans hEw.out hx9.out)
      · have hb1 : ((65536 : Int) < (TT.length : Int)) := by omega
        have hqq := mkHid (fun w' (e : Ext w w') => (show TextQ w es (.returned (.tuple #[.string ⟨#[]⟩, .int .i64 4])) w' from ⟨by rw [hTT.out, if_neg hbig], e⟩))
        clear hbig
        have tok : Tok 50 := .mk _
        go_wp2_with ((have _t : Tok 50 := tok); clear _t; clear tok; (have tok : Tok 51 := .mk _); go_at_call 23; refine BL.out.mono ?_; rintro e w8 ⟨rfl, rfl⟩)
        go_ret2
        exact hqq.out _ hEw.out
end Go.Proofs.YtjelnmokcpoofaaGreatDoor
namespace Go.Proofs.YtjelnmokcpoofaaGreatDoor
set_option maxRecDepth 100000
open Go Go.RowKit Go.Proofs
def dA : PD := ⟨⟨#[97]⟩, 2, Rat.divInt 1 2, 0, 5⟩
def dC : PD := ⟨⟨#[99]⟩, 2, Rat.divInt 1 2, 0, 4⟩
def rL (nm : ByteArray) (co : Int) : RD := ⟨nm, 2, co, some (Rat.divInt 1 2), some 0⟩
theorem goes_a : goesD (rL ⟨#[97]⟩ 5) = some dA := by kernel_rfl
theorem goes_c : goesD (rL ⟨#[99]⟩ 4) = some dC := by kernel_rfl
theorem name_A : nameB ((⟨#[65]⟩ : ByteArray).data.toList) = false := by kernel_rfl
theorem near_ac : nearG 0 none [dA, dC] = some dC := by kernel_rfl
theorem lens_ac (v1 v2 : Value) : (([(dA, v1), (dC, v2)] : List (PD × Value)).map (·.1)).filter lensB ≠ [] := by
  have : (([(dA, v1), (dC, v2)] : List (PD × Value)).map (·.1)).filter lensB = [dA, dC] := by kernel_rfl
  rw [this]
  simp
theorem text_ac : textB [dA, dC] = [97, 32, 53, 32, 108, 101, 110, 115, 32, 49, 47, 50, 10, 99, 32, 52, 32, 108, 101, 110, 115, 32, 49, 47, 50, 10] := by kernel_rfl
end Go.Proofs.YtjelnmokcpoofaaGreatDoor
namespace Go.Proofs.YtjelnmokcpoofaaGreatDoor
set_option maxRecDepth 100000
open Go Go.RowKit Go.Proofs
set_option maxHeartbeats 1600000 in
theorem small25_f (n d : Int) (w : World) (h0 : -9223372036854775808 ≤ n) (h1 : n < 9223372036854775808) (h2 : -9223372036854775808 ≤ d) (h3 : d < 9223372036854775808) (hd : d ≠ 0) :
    Calls Tryz.prog 31 #[.int .i64 n, .int .i64 d] w fun e w' => ∃ v, e = .returned v ∧ Ext w w' ∧ AnyF w' v (some (Rat.divInt n d)) := by
  have o1 := mkHid (fun w => of_f n d w h0 h1 h2 h3 hd)
  clear h0 h1 h2 h3 hd
  go_enter Tryz.func31, Tryz.ntmps31
  go_wp2_with fail
  refine (o1.out _).mono ?_
  rintro e w1 ⟨v, rfl, hE1, hv⟩
  obtain ⟨x1, x2, x3, x4, y1, y2, y3, y4, rfl⟩ := hv.shape
  have hB := (hE1.blk (heap_alloc_new _ _))
  have hB2 := (heap_alloc_old w1 (.cells #[.bool x1, .slice x2 x3 x4, .bool y1, .slice y2 y3 y4] 52) (Array.getElem?_eq_some_iff.1 hB).1).trans hB
  have hv2 := hv.ext ((Ext.refl w1).al (.cells #[.bool x1, .slice x2 x3 x4, .bool y1, .slice y2 y3 y4] 52))
  have FR := hv2.flat hB2 (by simp [flatV]) #[.bool x1, .slice x2 x3 x4, .bool y1, .slice y2 y3 y4]
  have FE := ((((Ext.refl w).al _).trans hE1).al (.cells #[.bool x1, .slice x2 x3 x4, .bool y1, .slice y2 y3 y4] 52)).row (Nat.le_refl _) #[.bool x1, .slice x2 x3 x4, .bool y1, .slice y2 y3 y4]
  replace FR := mkHid FR
  replace FE := mkHid FE
  replace hB2 := mkHid hB2
  clear hv hE1 hv2 hB
  go_wp2_with (refine wpList_store_row rfl 52 (.tmp 4) (.tmp 16) rfl w.heap.size #[.bool x1, .slice x2 x3 x4, .bool y1, .slice y2 y3 y4] rfl rfl 52 _ hB2.out (by kernel_rfl) rfl (by kernel_rfl) ?_)
  exact bodyPost_ret (results_cell_row rfl _ _ w.heap.size 52 #[.bool x1, .slice x2 x3 x4, .bool y1, .slice y2 y3 y4] (0, 0) _ rfl (setRow_heap _ _ _ _ _ _ hB2.out) Tryz.underlying52 rfl (by kernel_rfl)) rfl ⟨_, rfl, FE.out, FR.out⟩
def ElemA (p : FV) (W : World) (v : Value) : Prop := ∃ q : FV, v = .agg #[.int .u8 2, .bool p.b1, .slice p.a1 p.n1 p.c1, .bool p.b2, .slice p.a2 p.n2 p.c2, .bool q.b1, .slice q.a1 q.n1 q.c1, .bool q.b2, .slice q.a2 q.n2 q.c2] ∧ AnyF W (.agg #[.bool q.b1, .slice q.a1 q.n1 q.c1, .bool q.b2, .slice q.a2 q.n2 q.c2]) (some 0)
def PartA (nm : ByteArray) (co : Int) (p : FV) (W : World) (v : Value) : Prop := ∃ q : FV, v = .agg #[.string nm, .int .u8 2, .bool p.b1, .slice p.a1 p.n1 p.c1, .bool p.b2, .slice p.a2 p.n2 p.c2, .bool q.b1, .slice q.a1 q.n1 q.c1, .bool q.b2, .slice q.a2 q.n2 q.c2, .int .i64 co] ∧ AnyF W (.agg #[.bool q.b1, .slice q.a1 q.n1 q.c1, .bool q.b2, .slice q.a2 q.n2 q.c2]) (some 0)
theorem st_elemA {ss : List FSpec} (p : FV) (h : StableAll Ext ss) : StableAll Ext (.pred (ElemA p) :: ss) := ⟨fun _ _ _ e h => by obtain ⟨q, h1, h2⟩ := h; exact ⟨q, h1, h2.ext e⟩, h⟩
theorem st_partA {ss : List FSpec} (nm : ByteArray) (co : Int) (p : FV) (h : StableAll Ext ss) : StableAll Ext (.pred (PartA nm co p) :: ss) := ⟨fun _ _ _ e h => by obtain ⟨q, h1, h2⟩ := h; exact ⟨q, h1, h2.ext e⟩, h⟩
theorem zero_div : Rat.divInt 0 1 = 0 := by kernel_rfl
/-- A lens as it is made. -/
def LensQ (nm : ByteArray) (co : Int) (x : Rat) (w : World) (e : Ending) (w' : World) : Prop :=
  ∃ p q : FV, e = .returned (.agg #[.string nm, .int .u8 2, .bool p.b1, .slice p.a1 p.n1 p.c1, .bool p.b2, .slice p.a2 p.n2 p.c2, .bool q.b1, .slice q.a1 q.n1 q.c1, .bool q.b2, .slice q.a2 q.n2 q.c2, .int .i64 co]) ∧ AnyF w' (.agg #[.bool p.b1, .slice p.a1 p.n1 p.c1, .bool p.b2, .slice p.a2 p.n2 p.c2]) (some x) ∧ AnyF w' (.agg #[.bool q.b1, .slice q.a1 q.n1 q.c1, .bool q.b2, .slice q.a2 q.n2 q.c2]) (some 0) ∧ Ext w w'
set_option maxHeartbeats 3200000 in
theorem lens_c (nm : ByteArray) (v : Value) (x : Rat) (co : Int) (w : World) (h : AnyF w v (some x)) :
    Calls Tryz.prog 30 #[.string nm, v, .int .i64 co] w (LensQ nm co x w) := by
  have KS := mkHid (fun W => small25_f 0 1 W (by decide) (by decide) (by decide) (by decide) (by decide))
  rw [zero_div] at KS
  obtain ⟨p, rfl⟩ := h.fv
  obtain ⟨wb, hwb⟩ : ∃ wb, wb = (w.alloc (.cells #[.bool p.b1, .slice p.a1 p.n1 p.c1, .bool p.b2, .slice p.a2 p.n2 p.c2] 52)).alloc (.cells #[.string ⟨#[]⟩, .int .u8 0, .bool false, .slice none 0 0, .bool false, .slice none 0 0, .bool false, .slice none 0 0, .bool false, .slice none 0 0, .int .i64 0] 56) := ⟨_, rfl⟩
  have hE : Ext w wb := by rw [hwb]; exact ((Ext.refl w).al _).al _
  have z0 : wb.heap[w.heap.size]? = some (.cells #[.bool p.b1, .slice p.a1 p.n1 p.c1, .bool p.b2, .slice p.a2 p.n2 p.c2] 52 (0, 0)) := by rw [hwb]; exact (heap_alloc_old _ _ (by simp)).trans (heap_alloc_new _ _)
  have zB : wb.heap[w.heap.size + 1]? = some (.cells #[.string ⟨#[]⟩, .int .u8 0, .bool false, .slice none 0 0, .bool false, .slice none 0 0, .bool false, .slice none 0 0, .bool false, .slice none 0 0, .int .i64 0] 56 (0, 0)) := by rw [hwb]; exact heap_at _ _ _ (by simp)
  have hA := mkHid (h.ext hE)
  replace z0 := mkHid z0
  replace zB := mkHid zB
  replace hE := mkHid hE
  replace hwb := mkHid hwb
  clear h
  go_enter Tryz.func30, Tryz.ntmps30
  go_wp2_with fail
  rw [← hwb.out]
  clear hwb
  apply region_ext [.val (.string nm), .val (.agg #[.bool p.b1, .slice p.a1 p.n1 p.c1, .bool p.b2, .slice p.a2 p.n2 p.c2]), .pred (fun W v => AnyF W v (some 0)), .pred (ElemA p), .val (.int .i64 co), .pred (PartA nm co p)] (by kernel_rfl) (stable_vals _ (stable_vals _ (st_any _ (st_elemA _ (stable_vals _ (st_partA _ _ _ trivial))))))
  refine ⟨fun W hW _ => by go_simp; first | exact ⟨Ext.refl _, rfl⟩ | exact Ext.refl _, ?_⟩
  refine ⟨?ld, ?_⟩
  case ld =>
    intro W hW hF
    have hr := hW.blk z0.out
    with_reducible refine fr_load ?zhw 52 (.tmp 4) ?zho w.heap.size ?zhx 52 #[.bool p.b1, .slice p.a1 p.n1 p.c1, .bool p.b2, .slice p.a2 p.n2 p.c2] (0, 0) _ hr Tryz.underlying52 ?zhd ?zhi ?zh
    case zhw => kernel_rfl
    case zho => rfl
    case zhx => kernel_rfl
    case zhd => rfl
    case zhi => kernel_rfl
    case zh => exact ⟨Ext.refl _, rfl⟩
  refine ⟨fun W hW hF => ?cs, fun v2 => ?_⟩
  case cs =>
    clear hF
    go_simp
    refine (KS.out W).mono ?_
    rintro e w' ⟨v, rfl, h1, h2⟩
    exact ⟨v, rfl, h1, h2⟩
  refine ⟨fun W hW hF => ?bE, fun v3 => ?_⟩
  case bE =>
    have dq : AnyF W v2 (some 0) := hF.1 (by kernel_rfl)
    clear hF
    obtain ⟨q, rfl⟩ := dq.fv
    replace dq := mkHid dq
    go_simp
    exact ⟨Ext.refl _, q, rfl, dq.out⟩
  refine ⟨fun W hW _ => by go_simp; first | exact ⟨Ext.refl _, rfl⟩ | exact Ext.refl _, ?_⟩
  refine ⟨fun W hW hF => ?bP, fun v5 => fun W hW hF => ?fin⟩
  case bP =>
    have dE : ElemA p W v3 := hF.1 (by kernel_rfl)
    clear hF
    obtain ⟨q, rfl, dq⟩ := dE
    replace dq := mkHid dq
    go_simp
    exact ⟨Ext.refl _, q, rfl, dq.out⟩
  case fin =>
    have dP : PartA nm co p W v5 := hF.1 rfl
    obtain ⟨q, rfl, dq⟩ := dP
    have hBW := hW.blk zB.out
    have FQ := mkHid (show LensQ nm co x w (.returned (.agg #[.string nm, .int .u8 2, .bool p.b1, .slice p.a1 p.n1 p.c1, .bool p.b2, .slice p.a2 p.n2 p.c2, .bool q.b1, .slice q.a1 q.n1 q.c1, .bool q.b2, .slice q.a2 q.n2 q.c2, .int .i64 co])) (W.setRow (w.heap.size + 1) #[.string nm, .int .u8 2, .bool p.b1, .slice p.a1 p.n1 p.c1, .bool p.b2, .slice p.a2 p.n2 p.c2, .bool q.b1, .slice q.a1 q.n1 q.c1, .bool q.b2, .slice q.a2 q.n2 q.c2, .int .i64 co]) from ⟨p, q, rfl, (hA.out.ext hW).flat32 hBW (by simp [flat32]) _, dq.flat32 hBW (by simp [flat32]) _, (hE.out.trans hW).row (Nat.le_succ _) _⟩)
    clear hF dq hW
    go_simp
    go_wp2_with (refine wpList_store_row rfl 56 (.tmp 6) (.tmp 12) rfl (w.heap.size + 1) #[.string nm, .int .u8 2, .bool p.b1, .slice p.a1 p.n1 p.c1, .bool p.b2, .slice p.a2 p.n2 p.c2, .bool q.b1, .slice q.a1 q.n1 q.c1, .bool q.b2, .slice q.a2 q.n2 q.c2, .int .i64 co] rfl rfl 56 _ hBW (by kernel_rfl) rfl (by kernel_rfl) ?_)
    exact bodyPost_ret (results_cell_row rfl _ _ (w.heap.size + 1) 56 #[.string nm, .int .u8 2, .bool p.b1, .slice p.a1 p.n1 p.c1, .bool p.b2, .slice p.a2 p.n2 p.c2, .bool q.b1, .slice q.a1 q.n1 q.c1, .bool q.b2, .slice q.a2 q.n2 q.c2, .int .i64 co] (0, 0) _ rfl (setRow_heap _ _ _ _ _ _ hBW) Tryz.underlying56 rfl (by kernel_rfl)) rfl FQ.out
end Go.Proofs.YtjelnmokcpoofaaGreatDoor
namespace Go.Proofs.YtjelnmokcpoofaaGreatDoor
set_option maxRecDepth 100000
open Go Go.RowKit Go.Proofs
theorem put_chg {w w1 w2 : World} {M : Nat} (h : Ext w w1) (c : Chg w1 w2 (· = M)) (hM : w.heap.size ≤ M) : Ext w w2 := c.ext w h fun k hk e => by omega
set_option maxRecDepth 100000 in
set_option maxHeartbeats 3200000 in
/-- **alive says so.** -/
theorem alive25_c (w : World) (hm : Max0 w) (ht : Tab10 w) : Calls Tryz.prog 11 #[] w fun e w' => e = .returned (.bool true) ∧ Ext w w' := by
  have KN := mkHid (new_c w)
  have KS := mkHid (fun W => small25_f 1 2 W (by decide) (by decide) (by decide) (by decide) (by decide))
  have KS0 := fun W => small25_f 0 1 W (by decide) (by decide) (by decide) (by decide) (by decide)
  rw [zero_div] at KS0
  replace KS0 := mkHid KS0
  have KL := mkHid (fun nm v co W (h : AnyF W v (some (Rat.divInt 1 2))) => lens_c nm v (Rat.divInt 1 2) co W h)
  have KP := mkHid (fun W (e : Ext w W) => parse_two W (hm.ext e))
  have HT := mkHid (fun W (e : Ext w W) => tab_ext ht e)
  have s1 : ((⟨#[99]⟩ : ByteArray).toList == [99]) = true := by rw [ByteArray.toList_eq]; decide
  clear hm ht
  go_enter Tryz.func11, Tryz.ntmps11
  have tok : Tok 0 := .mk _
  go_wp2_with (first
    | ((have _t : Tok 0 := tok); clear _t; clear tok; (have tok : Tok 1 := .mk _); go_at_call 14; refine KN.out.mono ?_; rintro e w1 ⟨g, M, rfl, hc1, hE1, hg, hM⟩; replace hc1 := mkHid hc1; replace hE1 := mkHid hE1; replace hg := mkHid hg; replace hM := mkHid hM)
    | ((have _t : Tok 1 := tok); clear _t; clear tok; (have tok : Tok 2 := .mk _); go_at_call 31; refine (KS.out _).mono ?_; rintro e w2 ⟨v2, rfl, hx, hv2⟩; (have hE2 := mkHid (hE1.out.trans hx)); (have hc2 := mkHid (hc1.out.ext hx)); replace hv2 := mkHid hv2; clear hx)
    | ((have _t : Tok 2 := tok); clear _t; clear tok; (have tok : Tok 3 := .mk _); go_at_call 30; refine (KL.out _ _ _ _ hv2.out).mono ?_; rintro e w3 ⟨p3, q3, rfl, hp3, hq3, hx⟩; (have hE3 := mkHid (hE2.out.trans hx)); (have hc3 := hc2.out.ext hx); (have hP3 := mkHid (put_in (rL ⟨#[97]⟩ 5) p3 q3 w3 g M [] hc3 hp3 hq3 (by decide) dA goes_a rfl (by decide))); clear hx hp3 hq3 hc3 hv2)
    | ((have _t : Tok 3 := tok); clear _t; clear tok; (have tok : Tok 4 := .mk _); go_at_call 29; refine hP3.out.mono ?_; rintro e w4 ⟨rfl, v4, hk4, hc4, ht4⟩; (have hE4 := mkHid (put_chg hE3.out ht4 hM.out)); replace hc4 := mkHid (show Cat w4 g M [(dA, v4)] from hc4); clear hk4 ht4 hP3)
    | ((have _t : Tok 4 := tok); clear _t; clear tok; (have tok : Tok 5 := .mk _); go_at_call 31; refine (KS.out _).mono ?_; rintro e w5 ⟨v5, rfl, hx, hv5⟩; (have hE5 := mkHid (hE4.out.trans hx)); (have hc5 := mkHid (hc4.out.ext hx)); replace hv5 := mkHid hv5; clear hx)
    | ((have _t : Tok 5 := tok); clear _t; clear tok; (have tok : Tok 6 := .mk _); go_at_call 30; refine (KL.out _ _ _ _ hv5.out).mono ?_; rintro e w6 ⟨p6, q6, rfl, hp6, hq6, hx⟩; (have hE6 := mkHid (hE5.out.trans hx)); (have hc6 := hc5.out.ext hx); (have hP6 := mkHid (put_in (rL ⟨#[99]⟩ 4) p6 q6 w6 g M [(dA, v4)] hc6 hp6 hq6 (by decide) dC goes_c rfl (by simp))); clear hx hp6 hq6 hc6 hv5)
    | ((have _t : Tok 6 := tok); clear _t; clear tok; (have tok : Tok 7 := .mk _); go_at_call 29; refine hP6.out.mono ?_; rintro e w7 ⟨rfl, v7, hk7, hc7, ht7⟩; (have hE7 := mkHid (put_chg hE6.out ht7 hM.out)); replace hc7 := mkHid (show Cat w7 g M [(dA, v4), (dC, v7)] from hc7); clear hk7 ht7 hP6)
    | ((have _t : Tok 7 := tok); clear _t; clear tok; (have tok : Tok 8 := .mk _); go_at_call 31; refine (KS.out _).mono ?_; rintro e w8 ⟨v8, rfl, hx, hv8⟩; (have hE8 := mkHid (hE7.out.trans hx)); (have hc8 := mkHid (hc7.out.ext hx)); replace hv8 := mkHid hv8; clear hx)
    | ((have _t : Tok 8 := tok); clear _t; clear tok; (have tok : Tok 9 := .mk _); go_at_call 30; refine (KL.out _ _ _ _ hv8.out).mono ?_; rintro e w9 ⟨p9, q9, rfl, hp9, hq9, hx⟩; (have hE9 := mkHid (hE8.out.trans hx)); (have hc9 := hc8.out.ext hx); (have hP9 := mkHid (put_name p9 q9 ⟨#[65]⟩ 2 4 _ _ w9 g M _ hc9 hp9 hq9 (by decide) name_A)); replace hc9 := mkHid hc9; clear hx hp9 hq9 hv8)
    | ((have _t : Tok 9 := tok); clear _t; clear tok; (have tok : Tok 10 := .mk _); go_at_call 29; refine hP9.out.mono ?_; rintro e w10 ⟨rfl, hx⟩; (have hE10 := mkHid (hE9.out.trans hx)); (have hc10 := mkHid (hc9.out.ext hx)); clear hx hP9)
    | ((have _t : Tok 10 := tok); clear _t; clear tok; (have tok : Tok 11 := .mk _); go_at_call 31; refine (KS.out _).mono ?_; rintro e w11 ⟨v11, rfl, hx, hv11⟩; (have hE11 := mkHid (hE10.out.trans hx)); (have hc11 := mkHid (hc10.out.ext hx)); replace hv11 := mkHid hv11; clear hx)
    | ((have _t : Tok 11 := tok); clear _t; clear tok; (have tok : Tok 12 := .mk _); go_at_call 30; refine (KL.out _ _ _ _ hv11.out).mono ?_; rintro e w12 ⟨p12, q12, rfl, hp12, hq12, hx⟩; (have hE12 := mkHid (hE11.out.trans hx)); (have hc12 := hc11.out.ext hx); (have hP12 := mkHid (put_twice p12 q12 ⟨#[97]⟩ 2 4 _ _ w12 g M _ hc12 hp12 hq12 (by decide) (by kernel_rfl) (by kernel_rfl) (dA, v4) rfl)); replace hc12 := mkHid hc12; clear hx hp12 hq12 hv11)
    | ((have _t : Tok 12 := tok); clear _t; clear tok; (have tok : Tok 13 := .mk _); go_at_call 29; refine hP12.out.mono ?_; rintro e w13 ⟨rfl, hx⟩; (have hE13 := mkHid (hE12.out.trans hx)); (have hc13 := mkHid (hc12.out.ext hx)); clear hx hP12)
    | ((have _t : Tok 13 := tok); clear _t; clear tok; (have tok : Tok 14 := .mk _); go_at_call 31; refine (KS0.out _).mono ?_; rintro e w14 ⟨v14, rfl, hx, hv14⟩; (have hE14 := mkHid (hE13.out.trans hx)); (have hc14 := mkHid (hc13.out.ext hx)); (obtain ⟨pw, rfl⟩ := hv14.fv); replace hv14 := mkHid hv14; clear hx)
    | ((have _t : Tok 14 := tok); clear _t; clear tok; (have tok : Tok 15 := .mk _); go_at_call 32; refine (near_ok pw 0 w14 g M _ hc14.out hv14.out (lens_ac v4 v7)).mono ?_; rintro e w15 ⟨v15, d15, rfl, hn15, hk15, hx⟩; (have hd15 : dC = d15 := Option.some.inj (near_ac.symm.trans hn15)); subst hd15; (have hE15 := mkHid (hE14.out.trans hx)); (have hc15 := hc14.out.ext hx); (obtain ⟨p15, q15, rfl, -, -⟩ := hk15.r.fv);
        (obtain ⟨w16, hw16⟩ : ∃ W, W = (w15.alloc (.cells #[.string ⟨#[]⟩, .int .u8 0, .bool false, .slice none 0 0, .bool false, .slice none 0 0, .bool false, .slice none 0 0, .bool false, .slice none 0 0, .int .i64 0] 56)).setRow w15.heap.size #[.string dC.nm, .int .u8 dC.kd, .bool p15.b1, .slice p15.a1 p15.n1 p15.c1, .bool p15.b2, .slice p15.a2 p15.n2 p15.c2, .bool q15.b1, .slice q15.a1 q15.n1 q15.c1, .bool q15.b2, .slice q15.a2 q15.n2 q15.c2, .int .i64 dC.co] := ⟨_, rfl⟩);
        (have zn := heap_alloc_new w15 (.cells #[.string ⟨#[]⟩, .int .u8 0, .bool false, .slice none 0 0, .bool false, .slice none 0 0, .bool false, .slice none 0 0, .bool false, .slice none 0 0, .int .i64 0] 56));
        (have z16 := mkHid (show w16.heap[w15.heap.size]? = some (.cells #[.string dC.nm, .int .u8 dC.kd, .bool p15.b1, .slice p15.a1 p15.n1 p15.c1, .bool p15.b2, .slice p15.a2 p15.n2 p15.c2, .bool q15.b1, .slice q15.a1 q15.n1 q15.c1, .bool q15.b2, .slice q15.a2 q15.n2 q15.c2, .int .i64 dC.co] 56 (0, 0)) by rw [hw16]; exact setRow_heap _ _ _ _ _ _ zn));
        (have hx16 : Ext w15 w16 := by rw [hw16]; exact ((Ext.refl w15).al _).row (Nat.le_refl _) _);
        (have hE16 := mkHid (hE15.out.trans hx16)); (have hc16 := hc15.ext hx16); (have hT16 := mkHid (text_l w16 g M _ hc16 (HT.out _ hE16.out))); replace hw16 := mkHid hw16; replace zn := mkHid zn; clear hx hx16 hc15 hc16 hk15 hn15)
    | ((have _t : Tok 15 := tok); clear _t; clear tok; (have tok : Tok 16 := .mk _); refine wpList_store_row rfl 56 (.tmp 2) (.tmp 40) rfl w15.heap.size #[.string dC.nm, .int .u8 dC.kd, .bool p15.b1, .slice p15.a1 p15.n1 p15.c1, .bool p15.b2, .slice p15.a2 p15.n2 p15.c2, .bool q15.b1, .slice q15.a1 q15.n1 q15.c1, .bool q15.b2, .slice q15.a2 q15.n2 q15.c2, .int .i64 dC.co] rfl rfl 56 _ zn.out (by kernel_rfl) rfl (by kernel_rfl) ?_; rw [← hw16.out])
    | ((have _t : Tok 16 := tok); clear _t; clear tok; (have tok : Tok 17 := .mk _); go_at_call 8; refine hT16.out.mono ?_; rintro e w17 ⟨he, hx⟩; (have hte : (([(dA, v4), (dC, v7)] : List (PD × Value)).map (·.1)) = [dA, dC] := rfl); rw [hte, text_ac, if_pos (by decide)] at he; subst he; (have hE17 := mkHid (hE16.out.trans hx)); (have z17 := mkHid (hx.blk z16.out)); clear hx hte hT16)
    | ((have _t : Tok 17 := tok); clear _t; clear tok; (have tok : Tok 18 := .mk _); go_at_call 6; refine (KP.out _ hE17.out).mono ?_; rintro e w18 ⟨rfl, hx⟩; (have hE18 := mkHid (hE17.out.trans hx)); (have c0 : w18.cell? ⟨w15.heap.size, 0, none⟩ = some (.string ⟨#[99]⟩) := row16_cells (hx.blk z17.out) 0); clear hx))
  go_ret
  exact ⟨rfl, hE18.out⟩
end Go.Proofs.YtjelnmokcpoofaaGreatDoor
namespace Go.Proofs.YtjelnmokcpoofaaGreatDoor
set_option maxRecDepth 100000
open Go Go.RowKit Go.Proofs
def elemC (n1 n2 n3 n4 : Nat) : Int := costV n1 n2 + costV n3 n4
set_option maxRecDepth 100000 in
set_option maxHeartbeats 1600000 in
theorem elementCost_c (kd : Int) (b1 : Bool) (a1 : Option Addr) (n1 c1 : Nat) (b2 : Bool) (a2 : Option Addr) (n2 c2 : Nat) (b3 : Bool) (a3 : Option Addr) (n3 c3 : Nat) (b4 : Bool) (a4 : Option Addr) (n4 c4 : Nat) (w : World) (hn1 : n1 ≤ 140737488355328) (hn2 : n2 ≤ 140737488355328) (hn3 : n3 ≤ 140737488355328) (hn4 : n4 ≤ 140737488355328) :
    Calls Tryz.prog 71 #[.agg #[.int .u8 kd, .bool b1, .slice a1 n1 c1, .bool b2, .slice a2 n2 c2, .bool b3, .slice a3 n3 c3, .bool b4, .slice a4 n4 c4]] w fun e w' => e = .returned (.int .i64 (elemC n1 n2 n3 n4)) ∧ Ext w w' := by
  have k1 := mkHid (fun w => fracCost_c b1 b2 a1 a2 n1 c1 n2 c2 w hn1 hn2)
  have k2 := mkHid (fun w => fracCost_c b3 b4 a3 a4 n3 c3 n4 c4 w hn3 hn4)
  obtain ⟨s1, s2, -, -⟩ := costV_b n1 n2 hn1 hn2
  obtain ⟨t1, t2, -, -⟩ := costV_b n3 n4 hn3 hn4
  unfold elemC
  obtain ⟨S, hS⟩ : ∃ S : Int, S = costV n1 n2 := ⟨_, rfl⟩
  obtain ⟨T, hT⟩ : ∃ T : Int, T = costV n3 n4 := ⟨_, rfl⟩
  rw [← hS] at k1 s1 s2
  rw [← hT] at k2 t1 t2
  rw [← hS, ← hT]
  clear hS hT hn1 hn2 hn3 hn4
  go_enter Tryz.func71, Tryz.ntmps71
  go_wp2_with fail
  obtain ⟨wb, hwb⟩ : ∃ wb, wb = w.alloc (.cells #[.int .u8 kd, .bool b1, .slice a1 n1 c1, .bool b2, .slice a2 n2 c2, .bool b3, .slice a3 n3 c3, .bool b4, .slice a4 n4 c4] 54) := ⟨_, rfl⟩
  have hE : Ext w wb := by rw [hwb]; exact (Ext.refl w).al _
  have z0 : wb.heap[w.heap.size]? = some (.cells #[.int .u8 kd, .bool b1, .slice a1 n1 c1, .bool b2, .slice a2 n2 c2, .bool b3, .slice a3 n3 c3, .bool b4, .slice a4 n4 c4] 54 (0, 0)) := by rw [hwb]; exact heap_alloc_new _ _
  have z_1 : ∀ W, Ext wb W → W.cell? ⟨w.heap.size, 1, none⟩ = some (.bool b1) := fun W e => e.cell (by simp [World.cell?, z0])
  have z_2 : ∀ W, Ext wb W → W.cell? ⟨w.heap.size, 2, none⟩ = some (.slice a1 n1 c1) := fun W e => e.cell (by simp [World.cell?, z0])
  have z_3 : ∀ W, Ext wb W → W.cell? ⟨w.heap.size, 3, none⟩ = some (.bool b2) := fun W e => e.cell (by simp [World.cell?, z0])
  have z_4 : ∀ W, Ext wb W → W.cell? ⟨w.heap.size, 4, none⟩ = some (.slice a2 n2 c2) := fun W e => e.cell (by simp [World.cell?, z0])
  have z_5 : ∀ W, Ext wb W → W.cell? ⟨w.heap.size, 5, none⟩ = some (.bool b3) := fun W e => e.cell (by simp [World.cell?, z0])
  have z_6 : ∀ W, Ext wb W → W.cell? ⟨w.heap.size, 6, none⟩ = some (.slice a3 n3 c3) := fun W e => e.cell (by simp [World.cell?, z0])
  have z_7 : ∀ W, Ext wb W → W.cell? ⟨w.heap.size, 7, none⟩ = some (.bool b4) := fun W e => e.cell (by simp [World.cell?, z0])
  have z_8 : ∀ W, Ext wb W → W.cell? ⟨w.heap.size, 8, none⟩ = some (.slice a4 n4 c4) := fun W e => e.cell (by simp [World.cell?, z0])
  rw [← hwb]
  replace hE := mkHid hE
  clear hwb z0
  apply region_ext [.val _, .val _, .val (.int .i64 S), .val _, .val _, .val (.int .i64 T), .val (.int .i64 (S + T))] (by kernel_rfl) (stable_vals _ (stable_vals _ (stable_vals _ (stable_vals _ (stable_vals _ (stable_vals _ (stable_vals _ trivial)))))))
  iterate 2 (refine ⟨fun W hW _ => by go_simp; exact ⟨Ext.refl _, rfl⟩, ?_⟩)
  refine ⟨fun W hW _ => ?g2, ?_⟩
  case g2 =>
    go_simp
    refine (k1.out W).mono ?_
    rintro e w' ⟨rfl, h1⟩
    exact ⟨rfl, h1⟩
  iterate 2 (refine ⟨fun W hW _ => by go_simp; exact ⟨Ext.refl _, rfl⟩, ?_⟩)
  refine ⟨fun W hW _ => ?g5, ⟨fun W hW _ => by go_simp; exact ⟨Ext.refl _, by rw [IntKind.wrap_i64]; omega⟩, ?_⟩⟩
  case g5 =>
    go_simp
    refine (k2.out W).mono ?_
    rintro e w' ⟨rfl, h1⟩
    exact ⟨rfl, h1⟩
  intro W hW _
  clear z_1 z_2 z_3 z_4 z_5 z_6 z_7 z_8
  replace hE := mkHid (hE.out.trans hW)
  clear hW
  go_simp
  go_wp2_with fail
  go_ret
  exact ⟨by trivial, hE.out⟩
/-- A part of which nothing is long. -/
def SmallV (v : Value) : Prop := ∃ (nm : ByteArray) (kd co : Int) (p q : FV), v = .agg #[.string nm, .int .u8 kd, .bool p.b1, .slice p.a1 p.n1 p.c1, .bool p.b2, .slice p.a2 p.n2 p.c2, .bool q.b1, .slice q.a1 q.n1 q.c1, .bool q.b2, .slice q.a2 q.n2 q.c2, .int .i64 co] ∧ nm.size ≤ 1048576 ∧ p.n1 ≤ 1048576 ∧ p.n2 ≤ 1048576 ∧ q.n1 ≤ 1048576 ∧ q.n2 ≤ 1048576
/-- The loop: what has been counted. -/
def PcR (w1 : World) (vs : List Value) (t3 t4 : Value) (wr : World) : Prop :=
  ∃ (n : Int) (k : Nat), k ≤ vs.length ∧ t3 = .int .i64 n ∧ t4 = .int .i64 k ∧ 0 ≤ n ∧ n ≤ 4503599627370496 ∧ (n ≤ 1048576 → (vs.length : Int) ≤ 1048576 ∧ ∀ v ∈ vs.take k, SmallV v) ∧ Ext w1 wr
def PcQ (w : World) (vs : List Value) (e : Ending) (w' : World) : Prop :=
  ∃ n : Int, e = .returned (.int .i64 n) ∧ 0 ≤ n ∧ n ≤ 4503599627370496 ∧ (n ≤ 1048576 → (vs.length : Int) ≤ 1048576 ∧ ∀ v ∈ vs, SmallV v) ∧ Ext w w'
theorem RawPart.lens {w : World} {v : Value} (h : RawPart w v) : ∃ (nm : ByteArray) (kd co : Int) (p q : FV), v = .agg #[.string nm, .int .u8 kd, .bool p.b1, .slice p.a1 p.n1 p.c1, .bool p.b2, .slice p.a2 p.n2 p.c2, .bool q.b1, .slice q.a1 q.n1 q.c1, .bool q.b2, .slice q.a2 q.n2 q.c2, .int .i64 co] ∧ nm.size ≤ 140737488355328 ∧ p.n1 ≤ 140737488355328 ∧ p.n2 ≤ 140737488355328 ∧ q.n1 ≤ 140737488355328 ∧ q.n2 ≤ 140737488355328 := by
  obtain ⟨nm, kd, co, p, q, e, hs, f1, f2⟩ := h
  obtain ⟨b1, a1, c1, b2, a2, c2, l1, l2, e1, k1, k2, -, -⟩ := f1
  obtain ⟨b3, a3, c3, b4, a4, c4, l3, l4, e2, k3, k4, -, -⟩ := f2
  simp only [Value.agg.injEq, Array.mk.injEq, List.cons.injEq, and_true, Value.slice.injEq] at e1 e2
  exact ⟨nm, kd, co, p, q, e, hs, by omega, by omega, by omega, by omega⟩
set_option maxHeartbeats 3200000 in
theorem partsCost_c (s : Value) (vs : List Value) (w : World) (h : InL w s vs) :
    Calls Tryz.prog 33 #[s] w (PcQ w vs) := by
  obtain ⟨a, c, hs0, hc0⟩ := h.slice
  have hlen := h.len
  have hI := mkHid (fun W (e : Ext w W) => h.ext e)
  obtain ⟨w1, hw1⟩ : ∃ w1, w1 = w := ⟨_, rfl⟩
  rw [← hw1] at hI ⊢
  have hs := mkHid hs0
  subst hs0
  clear h hw1
  go_enter Tryz.func33, Tryz.ntmps33
  go_wp2_with fail
  have st : PcR w1 vs (.int .i64 vs.length) (.int .i64 0) w1 := ⟨vs.length, 0, Nat.zero_le _, rfl, rfl, by omega, by omega, fun h => ⟨h, by simp⟩, Ext.refl _⟩
  replace st := mkHid st
  go_loopw [3, 4] (fun t3 t4 wr => PcR w1 vs t3 t4 wr) (fun _ t4 _ => vs.length - (intOf t4).toNat)
  case atStart => exact st.out
  case round =>
    clear st
    obtain ⟨n, k, hk, rfl, rfl, hn0, hn1, hsm, hEr⟩ := hrel
    obtain ⟨w2, rfl⟩ : ∃ w2 : World, w2 = wr := ⟨_, rfl⟩
    by_cases hlt : k < vs.length
    · have hlt' : (k : Int) < (vs.length : Int) := by omega
      by_cases hm : n ≤ 1048576
      · obtain ⟨hvl, hsmall⟩ := hsm hm
        have hI2 := hI.out w2 hEr
        obtain ⟨b, o, c', e1, hcc, hr⟩ := hI2.get hlt
        simp only [Value.slice.injEq, true_and] at e1
        obtain ⟨rfl, rfl⟩ := e1
        obtain ⟨nm, kd, co, p, q, ev, z0, z1, z2, z3, z4⟩ := (hI2.raw _ (List.getElem_mem hlt)).lens
        rw [ev] at hr
        replace hr : w2.rangeAt b (o + k * 11) [.string nm, .int .u8 kd, .bool p.b1, .slice p.a1 p.n1 p.c1, .bool p.b2, .slice p.a2 p.n2 p.c2, .bool q.b1, .slice q.a1 q.n1 q.c1, .bool q.b2, .slice q.a2 q.n2 q.c2, .int .i64 co] := hr
        have hr1 : w2.rangeAt b (o + k * 11 + 1) [.int .u8 kd, .bool p.b1, .slice p.a1 p.n1 p.c1, .bool p.b2, .slice p.a2 p.n2 p.c2, .bool q.b1, .slice q.a1 q.n1 q.c1, .bool q.b2, .slice q.a2 q.n2 q.c2] := rangeAt_sub hr 1 9
        have c0 : ∀ W, Ext w2 W → W.cell? ⟨b, o + k * 11, none⟩ = some (.string nm) := fun W e => e.cell (hr 0 _ rfl)
        have HR := mkHid (fun W (e : Ext w2 W) => rangeAt_ext hr1 e)
        have KC := mkHid (fun W => elementCost_c kd p.b1 p.a1 p.n1 p.c1 p.b2 p.a2 p.n2 p.c2 q.b1 q.a1 q.n1 q.c1 q.b2 q.a2 q.n2 q.c2 W z1 z2 z3 z4)
        obtain ⟨s1, s2, s3, s4⟩ := costV_b p.n1 p.n2 z1 z2
        obtain ⟨t1, t2, t3, t4⟩ := costV_b q.n1 q.n2 z3 z4
        obtain ⟨E, hE⟩ : ∃ E : Int, E = elemC p.n1 p.n2 q.n1 q.n2 := ⟨_, rfl⟩
        have hE0 : 0 ≤ E := by rw [hE]; unfold elemC; omega
        have hE1 : E ≤ 1125899906842624 := by rw [hE]; unfold elemC; omega
        rw [← hE] at KC
        obtain ⟨m, hmn⟩ : ∃ m : Int, m = nm.size := ⟨_, rfl⟩
        have hm0 : 0 ≤ m := by omega
        have hm1 : m ≤ 140737488355328 := by omega
        have hnew : ∀ W v4, Ext w2 W → v4 = .int .i64 ((k + 1 : Nat) : Int) → PcR w1 vs (.int .i64 (n + m + E)) v4 W := by
          intro W v4 hW hv4
          refine ⟨n + m + E, k + 1, by omega, rfl, hv4, by omega, by omega, fun hle => ⟨hvl, fun v hv => ?_⟩, hEr.trans hW⟩
          rw [List.take_succ_eq_append_getElem hlt] at hv
          rcases List.mem_append.1 hv with hv | hv
          · exact hsmall v hv
          · rw [List.mem_singleton] at hv
            subst hv
            unfold elemC at hE
            exact ⟨nm, kd, co, p, q, ev, by omega, by omega, by omega, by omega, by omega⟩
        have hkk : (o : Int) + k * 11 = ((o + k * 11 : Nat) : Int) := by omega
        replace hnew := mkHid hnew
        replace hEr := mkHid hEr
        replace hmn := mkHid hmn
        clear hI2 hr hr1 hsmall hsm s1 s2 s3 s4 t1 t2 t3 t4 z0 z1 z2 z3 z4 ev hE hkk
        go_wp2_with fail
        apply region_extT [.val (.int .i64 n), .val (.slice (some ⟨b, o, none⟩) vs.length c), .val (.int .i64 k), .val (.pointer (some ⟨b, o + k * 11, none⟩)), .val (.pointer (some ⟨b, o + k * 11, none⟩)), .val (.string nm), .val (.int .i64 m), .val (.int .i64 (n + m)), .val (.slice (some ⟨b, o, none⟩) vs.length c), .val (.int .i64 k), .val (.pointer (some ⟨b, o + k * 11, none⟩)), .val (.pointer (some ⟨b, o + k * 11 + 1, none⟩)), .val (.agg #[.int .u8 kd, .bool p.b1, .slice p.a1 p.n1 p.c1, .bool p.b2, .slice p.a2 p.n2 p.c2, .bool q.b1, .slice q.a1 q.n1 q.c1, .bool q.b2, .slice q.a2 q.n2 q.c2]), .val (.int .i64 E), .val (.int .i64 (n + m + E))] (by kernel_rfl) (stable_vals _ (stable_vals _ (stable_vals _ (stable_vals _ (stable_vals _ (stable_vals _ (stable_vals _ (stable_vals _ (stable_vals _ (stable_vals _ (stable_vals _ (stable_vals _ (stable_vals _ (stable_vals _ (stable_vals _ trivial)))))))))))))))
        iterate 6 (refine ⟨fun W hW _ => by go_simp; first | exact ⟨Ext.refl _, rfl⟩ | exact Ext.refl _, ?_⟩)
        refine ⟨fun W hW _ => by go_simp; first | exact ⟨Ext.refl _, hmn.out.symm⟩ | exact ⟨Ext.refl _, by rw [hmn.out]⟩ | exact Ext.refl _, ?_⟩
        refine ⟨fun W hW _ => by go_simp; exact ⟨Ext.refl _, by rw [IntKind.wrap_i64]; omega⟩, ?_⟩
        iterate 4 (refine ⟨fun W hW _ => by go_simp; first | exact ⟨Ext.refl _, rfl⟩ | exact Ext.refl _, ?_⟩)
        refine ⟨?lf, ?_⟩
        case lf =>
          intro W hW hF
          have hr := HR.out W hW
          with_reducible refine fr_load_mid ?zhw 54 (.tmp 28) ?zho b (o + k * 11 + 1) ?zhx [.int .u8 kd, .bool p.b1, .slice p.a1 p.n1 p.c1, .bool p.b2, .slice p.a2 p.n2 p.c2, .bool q.b1, .slice q.a1 q.n1 q.c1, .bool q.b2, .slice q.a2 q.n2 q.c2] _ hr Tryz.underlying54 ?zhd ?zhi ?zh
          case zhw => kernel_rfl
          case zho => rfl
          case zhx => kernel_rfl
          case zhd => rfl
          case zhi => kernel_rfl
          case zh => exact ⟨Ext.refl _, rfl⟩
        refine ⟨fun W hW _ => ?cf, ⟨fun W hW _ => by go_simp; exact ⟨Ext.refl _, by rw [IntKind.wrap_i64]; omega⟩, ?_⟩⟩
        case cf =>
          go_simp
          refine (KC.out W).mono ?_
          rintro e w' ⟨rfl, h1⟩
          exact ⟨rfl, h1⟩
        intro W hW _
        clear c0 HR KC
        replace hW := mkHid hW
        go_simp
        go_wp2_with fail
        refine ⟨hnew.out _ _ hW.out (by go_num), by simp [intOf]; omega⟩
      · have hd : ¬ n ≤ 1048576 := hm
        have hq : PcQ w1 vs (.returned (.int .i64 n)) w2 := ⟨n, rfl, hn0, hn1, fun h => absurd h hm, hEr⟩
        replace hq := mkHid hq
        clear hsm hEr
        go_wp2_with fail
        go_ret
        exact hq.out
    · have hke : k = vs.length := by omega
      subst hke
      have hq : PcQ w1 vs (.returned (.int .i64 n)) w2 := ⟨n, rfl, hn0, hn1, fun h => by rw [List.take_length] at hsm; exact hsm h, hEr⟩
      replace hq := mkHid hq
      clear hsm hEr
      go_wp2_with fail
      go_ret
      exact hq.out
/-- fits: 'true' only of what is small. -/
theorem fits_c (s : Value) (vs : List Value) (w : World) (h : InL w s vs) :
    Calls Tryz.prog 12 #[s] w fun e w' => ∃ r, e = .returned (.bool r) ∧ (r = true → vs.length ≤ 1048576 ∧ ∀ v ∈ vs, SmallV v) ∧ Ext w w' := by
  have K := mkHid (partsCost_c s vs w h)
  obtain ⟨a, c, rfl, -⟩ := h.slice
  clear h
  go_enter Tryz.func12, Tryz.ntmps12
  have tok : Tok 0 := .mk _
  go_wp2_with (first
    | ((have _t : Tok 0 := tok); clear _t; clear tok; (have tok : Tok 1 := .mk _); go_at_call 33; refine K.out.mono ?_; rintro e w1 ⟨n, rfl, h0, h1, hsm, hE⟩; replace hsm := mkHid hsm; replace hE := mkHid hE)
    | ((have _t : Tok 1 := tok); clear _t; clear tok; (have tok : Tok 2 := .mk _); go_at_call 5; refine (beyond1_c w1.heap.size 1 n _ h0 h1 (by go_simp)).mono ?_; rintro e w2 ⟨v, rfl, hx, r, rfl, hb⟩; replace hb := mkHid hb; replace hE := mkHid ((hE.out.al _).trans hx); clear hx))
  go_ret
  refine ⟨!r, rfl, fun hr => ?_, hE.out⟩
  have := hsm.out (hb.out (by simpa using hr))
  exact ⟨by omega, this.2⟩
end Go.Proofs.YtjelnmokcpoofaaGreatDoor
namespace Go.Proofs.YtjelnmokcpoofaaGreatDoor
set_option maxRecDepth 100000
open Go Go.RowKit Go.Proofs
theorem IntR.anyR {w : World} {b : Bool} {a : Option Addr} {n c : Nat} {X : Int} (h : IntR w (.agg #[.bool b, .slice a n c]) X) : b = decide (X < 0) ∧ n = (lim X.natAbs).length ∧ AnyR w (.agg #[.bool b, .slice a (lim X.natAbs).length c]) b (lim X.natAbs) := by
  obtain ⟨s, e, a', c', rfl, k1, k2⟩ := h
  simp only [Value.agg.injEq, Array.mk.injEq, List.cons.injEq, and_true, Value.bool.injEq, Value.slice.injEq] at e
  obtain ⟨rfl, rfl, rfl, rfl⟩ := e
  exact ⟨rfl, rfl, _, _, rfl, lim_ok _, k1, k2⟩
theorem FracR.rawL {w : World} {b1 : Bool} {a1 : Option Addr} {n1 c1 : Nat} {b2 : Bool} {a2 : Option Addr} {n2 c2 : Nat} {q : Rat} (h : FracR w (.agg #[.bool b1, .slice a1 n1 c1, .bool b2, .slice a2 n2 c2]) q) (hq : nf q ≤ 2048) :
    b1 = decide (q.num < 0) ∧ n1 = (lim q.num.natAbs).length ∧ b2 = decide ((q.den : Int) < 0) ∧ n2 = (lim (q.den : Int).natAbs).length ∧ RawL w b1 a1 (lim q.num.natAbs) c1 b2 a2 (lim (q.den : Int).natAbs) c2 := by
  obtain ⟨b1', a1', n1', c1', b2', a2', n2', c2', e, k1, k2⟩ := h
  simp only [Value.agg.injEq, Array.mk.injEq, List.cons.injEq, and_true, Value.bool.injEq, Value.slice.injEq] at e
  obtain ⟨rfl, ⟨rfl, rfl, rfl⟩, rfl, rfl, rfl, rfl⟩ := e
  obtain ⟨e1, e2, r1⟩ := k1.anyR
  obtain ⟨e3, e4, r2⟩ := k2.anyR
  have m1 : (lim q.num.natAbs).length ≤ 2048 := Nat.le_trans (Nat.le_max_left _ _) hq
  have m2 : (lim (q.den : Int).natAbs).length ≤ 2048 := Nat.le_trans (Nat.le_max_right _ _) hq
  exact ⟨e1, e2, e3, e4, Nat.le_trans m1 (by decide), Nat.le_trans m2 (by decide), r1, r2⟩
/-- **SamePart of two readings of one part.** -/
theorem samePart_same (v v' : Value) (d : PD) (w : World) (h : PartR w v d) (h' : PartR w v' d) (hp : nf d.p ≤ 2048) (hq : nf d.q ≤ 2048) :
    Calls Tryz.prog 25 #[v, v'] w fun e w' => e = .returned (.bool true) ∧ Ext w w' := by
  obtain ⟨b1, a1, n1, c1, b2, a2, n2, c2, b3, a3, n3, c3, b4, a4, n4, c4, rfl, h1, h2⟩ := h
  obtain ⟨b1', a1', n1', c1', b2', a2', n2', c2', b3', a3', n3', c3', b4', a4', n4', c4', rfl, h1', h2'⟩ := h'
  obtain ⟨rfl, rfl, rfl, rfl, r1⟩ := h1.rawL hp
  obtain ⟨rfl, rfl, rfl, rfl, r2⟩ := h2.rawL hq
  obtain ⟨rfl, rfl, rfl, rfl, r1'⟩ := h1'.rawL hp
  obtain ⟨rfl, rfl, rfl, rfl, r2'⟩ := h2'.rawL hq
  refine (samePart_l d.nm d.nm d.kd d.kd d.co d.co _ a1 _ c1 _ a2 _ c2 _ a3 _ c3 _ a4 _ c4 _ a1' _ c1' _ a2' _ c2' _ a3' _ c3' _ a4' _ c4' w r1 r2 r1' r2').mono ?_
  rintro e w' ⟨rfl, hx⟩
  refine ⟨?_, hx⟩
  simp [eqI_self]
end Go.Proofs.YtjelnmokcpoofaaGreatDoor
namespace Go.Proofs.YtjelnmokcpoofaaGreatDoor
set_option maxRecDepth 100000
open Go Go.RowKit Go.Proofs
theorem cellsP_V (os : List (PD × Value)) : cellsP os = cellsV (os.map (·.2)) := by
  unfold cellsP cellsV
  rw [List.flatMap_map]
theorem row_of_owns11 {w : World} {base E n : Nat} {v : Value} {xs : List Value} (h : w.ownsRow base E 11 v n xs) : ∃ a c, v = .slice a n c ∧ n ≤ c ∧ Row w a xs := by
  obtain ⟨h1, h2⟩ := h
  rcases h2 with ⟨rfl, rfl⟩ | ⟨g, cap, cur, rfl, a2, a3, a4, a5, a6, a7⟩
  · have : xs = [] := List.eq_nil_of_length_eq_zero (by simpa using h1)
    subst this
    exact ⟨none, 0, rfl, Nat.le_refl _, row_nil w⟩
  · refine ⟨_, _, rfl, a4, g, 0, fun _ => rfl, fun j hj => ?_⟩
    have hle : n * 11 ≤ cur.size := by rw [a6]; exact Nat.mul_le_mul_right _ a4
    have hj2 : j < cur.size := by omega
    have hj3 : j < n * 11 := by omega
    have e : xs.getD j undef = cur[j] := by
      subst a7
      simp [List.getD_eq_getElem?_getD, hj3, hj2]
    rw [e]
    simp [World.cell?, a3, hj2]
/-- A list of parts that reads so. -/
structure RowL (w : World) (s : Value) (os : List (PD × Value)) : Prop where
  at' : ∃ a c, s = .slice a os.length c ∧ os.length ≤ c ∧ Row w a (cellsV (os.map (·.2)))
  part : ∀ x ∈ os, PartR w x.2 x.1
theorem RowL.ext {w w' : World} {s : Value} {os : List (PD × Value)} (h : RowL w s os) (e : Ext w w') : RowL w' s os := by
  obtain ⟨⟨a, c, h1, h2, h3⟩, hp⟩ := h
  exact ⟨⟨a, c, h1, h2, h3.ext e⟩, fun x hx => (hp x hx).ext e⟩
theorem RowL.is {w : World} {s : Value} {os : List (PD × Value)} (h : RowL w s os) : Is11 (os.map (·.2)) := fun v hv => by
  obtain ⟨x, hx, rfl⟩ := List.mem_map.1 hv
  obtain ⟨p, q, e, -, -⟩ := (h.part x hx).fv
  exact ⟨_, _, _, p, q, e⟩
theorem rowL_of_owns {w : World} {base : Nat} {s : Value} {os : List (PD × Value)} (h : w.ownsRow base 56 11 s os.length (cellsP os)) (hp : ∀ x ∈ os, PartR w x.2 x.1) : RowL w s os := by
  obtain ⟨a, c, h1, h2, h3⟩ := row_of_owns11 h
  rw [cellsP_V] at h3
  exact ⟨⟨a, c, h1, h2, h3⟩, hp⟩
theorem OutP.rowL {lo : Nat} {w : World} {s : Value} {os : List (PD × Value)} (h : OutP lo w s os) : RowL w s os := rowL_of_owns h.row fun x hx => (h.part x hx).r
theorem row_range7 {w : World} {a : Option Addr} {vs : List Value} (h : Row w a (cellsV vs)) (his : Is11 vs) {k : Nat} (hk : k < vs.length) : ∃ b o, a = some ⟨b, o, none⟩ ∧ w.rangeAt b (o + k * 11) vs[k].cells.toList := by
  obtain ⟨b, o, ha, hr⟩ := h
  have hl := cellsV_len his
  have hne : cellsV vs ≠ [] := by intro e; rw [e, List.length_nil] at hl; omega
  refine ⟨b, o, ha hne, fun j v hv => ?_⟩
  have hcl : vs[k].cells.toList.length = 11 := by
    obtain ⟨nm, kd, co, p, q, e⟩ := his vs[k] (List.getElem_mem hk)
    rw [e]
    rfl
  have hj : j < 11 := by have := (List.getElem?_eq_some_iff.1 hv).1; omega
  have h1 := hr (k * 11 + j) (by omega)
  have h2 := cellsV_at his hk j hj
  rw [List.getD_eq_getElem?_getD, h2] at h1
  have h3 : vs[k].cells[j]? = some v := by simpa using hv
  rw [h3] at h1
  rw [Nat.add_assoc]
  exact h1
/-- One part of such a list. -/
theorem RowL.get {w : World} {s : Value} {os : List (PD × Value)} (h : RowL w s os) {k : Nat} (hk : k < os.length) : ∃ b o c, s = .slice (some ⟨b, o, none⟩) os.length c ∧ os.length ≤ c ∧ ∃ p q : FV, os[k].2 = .agg #[.string os[k].1.nm, .int .u8 os[k].1.kd, .bool p.b1, .slice p.a1 p.n1 p.c1, .bool p.b2, .slice p.a2 p.n2 p.c2, .bool q.b1, .slice q.a1 q.n1 q.c1, .bool q.b2, .slice q.a2 q.n2 q.c2, .int .i64 os[k].1.co] ∧ w.rangeAt b (o + k * 11) [.string os[k].1.nm, .int .u8 os[k].1.kd, .bool p.b1, .slice p.a1 p.n1 p.c1, .bool p.b2, .slice p.a2 p.n2 p.c2, .bool q.b1, .slice q.a1 q.n1 q.c1, .bool q.b2, .slice q.a2 q.n2 q.c2, .int .i64 os[k].1.co] ∧ PartR w (.agg #[.string os[k].1.nm, .int .u8 os[k].1.kd, .bool p.b1, .slice p.a1 p.n1 p.c1, .bool p.b2, .slice p.a2 p.n2 p.c2, .bool q.b1, .slice q.a1 q.n1 q.c1, .bool q.b2, .slice q.a2 q.n2 q.c2, .int .i64 os[k].1.co]) os[k].1 := by
  obtain ⟨a, c, rfl, hc, hr⟩ := h.at'
  obtain ⟨b, o, rfl, h2⟩ := row_range7 hr h.is (k := k) (by simpa using hk)
  have hp := h.part _ (List.getElem_mem hk)
  obtain ⟨p, q, e, -, -⟩ := hp.fv
  rw [e] at hp
  refine ⟨b, o, c, rfl, hc, p, q, e, ?_, hp⟩
  have e2 : (os.map (·.2))[k]'(by simpa using hk) = .agg #[.string os[k].1.nm, .int .u8 os[k].1.kd, .bool p.b1, .slice p.a1 p.n1 p.c1, .bool p.b2, .slice p.a2 p.n2 p.c2, .bool q.b1, .slice q.a1 q.n1 q.c1, .bool q.b2, .slice q.a2 q.n2 q.c2, .int .i64 os[k].1.co] := by simpa using e
  rw [e2] at h2
  exact h2
set_option maxHeartbeats 3200000 in
theorem sameParts_c (s s' : Value) (os os' : List (PD × Value)) (w : World) (h : RowL w s os) (h' : RowL w s' os') (he : os.map (·.1) = os'.map (·.1)) (hn : ∀ x ∈ os, nf x.1.p ≤ 2048 ∧ nf x.1.q ≤ 2048) (hl : os.length ≤ 1099511627776) :
    Calls Tryz.prog 9 #[s, s'] w fun e w' => e = .returned (.bool true) ∧ Ext w w' := by
  have hle : os'.length = os.length := by have := congrArg List.length he; simpa using this.symm
  obtain ⟨a, c, e1, hc, -⟩ := h.at'
  obtain ⟨a', c', e1', hc', -⟩ := h'.at'
  rw [hle] at e1' hc'
  have H := mkHid (fun W (e : Ext w W) => h.ext e)
  have H' := mkHid (fun W (e : Ext w W) => h'.ext e)
  have he := mkHid he
  have hn := mkHid hn
  replace hle := mkHid hle
  subst e1
  subst e1'
  clear h h'
  go_enter Tryz.func9, Tryz.ntmps9
  go_wp2_with fail
  have st : ∃ k : Nat, k ≤ os.length ∧ Value.int .i64 0 = .int .i64 k ∧ Ext w w := ⟨0, Nat.zero_le _, rfl, Ext.refl _⟩
  replace st := mkHid st
  obtain ⟨w0, hw0⟩ : ∃ w0, w0 = w := ⟨_, rfl⟩
  rw [← hw0] at H H'
  have st : ∃ k : Nat, k ≤ os.length ∧ Value.int .i64 0 = .int .i64 k ∧ Ext w0 w := ⟨0, Nat.zero_le _, rfl, by rw [hw0]; exact Ext.refl _⟩
  replace st := mkHid st
  have hw0 := mkHid hw0
  go_loopw [5] (fun t5 wr => ∃ k : Nat, k ≤ os.length ∧ t5 = .int .i64 k ∧ Ext w0 wr) (fun t5 _ => os.length - (intOf t5).toNat)
  case atStart => exact st.out
  case round =>
    clear st
    obtain ⟨k, hk, rfl, hEr⟩ := hrel
    obtain ⟨w2, rfl⟩ : ∃ w2 : World, w2 = wr := ⟨_, rfl⟩
    by_cases hlt : k < os.length
    · have hlt' : (k : Int) < (os.length : Int) := by omega
      have hlt2 : k < os'.length := by rw [hle.out]; exact hlt
      obtain ⟨b, o, c1, x1, -, p, q, -, hr, hp⟩ := (H.out w2 hEr).get hlt
      obtain ⟨b', o', c1', x1', -, p', q', -, hr', hp'⟩ := (H'.out w2 hEr).get hlt2
      rw [hle.out] at x1'
      simp only [Value.slice.injEq, true_and] at x1 x1'
      obtain ⟨rfl, rfl⟩ := x1
      obtain ⟨rfl, rfl⟩ := x1'
      have hd : os'[k].1 = os[k].1 := by
        have h1 : (os'.map (·.1))[k]'(by simpa using hlt2) = (os.map (·.1))[k]'(by simpa using hlt) := by simp only [he.out]
        simpa using h1
      rw [hd] at hr' hp'
      have hnk := hn.out _ (List.getElem_mem hlt)
      generalize os[k].1 = d at *
      have HR := mkHid (fun W (e : Ext w2 W) => rangeAt_ext hr e)
      have HR' := mkHid (fun W (e : Ext w2 W) => rangeAt_ext hr' e)
      have K := mkHid (fun W (e : Ext w2 W) => samePart_same _ _ d W (hp.ext e) (hp'.ext e) hnk.1 hnk.2)
      replace hEr := mkHid hEr
      clear hr hr' hp hp' hnk hd hlt2
      go_wp2_with fail
      apply region_ext [.val (.slice (some ⟨b, o, none⟩) os.length c), .val (.int .i64 k), .val (.pointer (some ⟨b, o + k * 11, none⟩)), .val (.agg #[.string d.nm, .int .u8 d.kd, .bool p.b1, .slice p.a1 p.n1 p.c1, .bool p.b2, .slice p.a2 p.n2 p.c2, .bool q.b1, .slice q.a1 q.n1 q.c1, .bool q.b2, .slice q.a2 q.n2 q.c2, .int .i64 d.co]), .val (.slice (some ⟨b', o', none⟩) os.length c'), .val (.int .i64 k), .val (.pointer (some ⟨b', o' + k * 11, none⟩)), .val (.agg #[.string d.nm, .int .u8 d.kd, .bool p'.b1, .slice p'.a1 p'.n1 p'.c1, .bool p'.b2, .slice p'.a2 p'.n2 p'.c2, .bool q'.b1, .slice q'.a1 q'.n1 q'.c1, .bool q'.b2, .slice q'.a2 q'.n2 q'.c2, .int .i64 d.co]), .val (.bool true), .val (.bool false)] (by kernel_rfl) (stable_vals _ (stable_vals _ (stable_vals _ (stable_vals _ (stable_vals _ (stable_vals _ (stable_vals _ (stable_vals _ (stable_vals _ (stable_vals _ trivial))))))))))
      iterate 3 (refine ⟨fun W hW _ => by go_simp; first | exact ⟨Ext.refl _, rfl⟩ | exact Ext.refl _, ?_⟩)
      refine ⟨?l1, ?_⟩
      case l1 =>
        intro W hW hF
        have hr := HR.out W hW
        with_reducible refine fr_load_mid ?zhw 56 (.tmp 19) ?zho b (o + k * 11) ?zhx [.string d.nm, .int .u8 d.kd, .bool p.b1, .slice p.a1 p.n1 p.c1, .bool p.b2, .slice p.a2 p.n2 p.c2, .bool q.b1, .slice q.a1 q.n1 q.c1, .bool q.b2, .slice q.a2 q.n2 q.c2, .int .i64 d.co] _ hr Tryz.underlying56 ?zhd ?zhi ?zh
        case zhw => kernel_rfl
        case zho => rfl
        case zhx => kernel_rfl
        case zhd => rfl
        case zhi => kernel_rfl
        case zh => exact ⟨Ext.refl _, rfl⟩
      iterate 3 (refine ⟨fun W hW _ => by go_simp; first | exact ⟨Ext.refl _, rfl⟩ | exact Ext.refl _, ?_⟩)
      refine ⟨?l2, ?_⟩
      case l2 =>
        intro W hW hF
        have hr := HR'.out W hW
        with_reducible refine fr_load_mid ?zhw 56 (.tmp 23) ?zho b' (o' + k * 11) ?zhx [.string d.nm, .int .u8 d.kd, .bool p'.b1, .slice p'.a1 p'.n1 p'.c1, .bool p'.b2, .slice p'.a2 p'.n2 p'.c2, .bool q'.b1, .slice q'.a1 q'.n1 q'.c1, .bool q'.b2, .slice q'.a2 q'.n2 q'.c2, .int .i64 d.co] _ hr Tryz.underlying56 ?zhd ?zhi ?zh
        case zhw => kernel_rfl
        case zho => rfl
        case zhx => kernel_rfl
        case zhd => rfl
        case zhi => kernel_rfl
        case zh => exact ⟨Ext.refl _, rfl⟩
      refine ⟨fun W hW _ => ?cl, ?_⟩
      case cl =>
        go_simp
        refine (K.out W hW).mono ?_
        rintro e w' ⟨rfl, h1⟩
        exact ⟨rfl, h1⟩
      refine ⟨fun W hW _ => by go_simp; first | exact ⟨Ext.refl _, rfl⟩ | exact Ext.refl _, ?_⟩
      intro W hW _
      clear HR HR' K
      replace hEr := mkHid (hEr.out.trans hW)
      clear hW
      go_simp
      go_wp2_with fail
      refine ⟨⟨k + 1, by omega, by go_num, hEr.out⟩, by simp [intOf]; omega⟩
    · have hke : k = os.length := by omega
      subst hke
      replace hEr := mkHid hEr
      go_wp2_with fail
      go_ret
      exact ⟨rfl, by rw [← hw0.out]; exact hEr.out⟩
end Go.Proofs.YtjelnmokcpoofaaGreatDoor
namespace Go.Proofs.YtjelnmokcpoofaaGreatDoor
set_option maxRecDepth 100000
open Go Go.RowKit Go.Proofs
theorem raw_in {w : World} {v : Value} (h : RawPart w v) (hs : SmallV v) : ∃ r, PartIn w v r := by
  obtain ⟨nm, kd, co, p, q, rfl, h0, f1, f2⟩ := h
  obtain ⟨nm', kd', co', p', q', e, z0, z1, z2, z3, z4⟩ := hs
  simp only [Value.agg.injEq, Array.mk.injEq, List.cons.injEq, and_true, Value.slice.injEq, Value.string.injEq] at e
  obtain ⟨o1, y1⟩ : ∃ o, AnyF w (.agg #[.bool p.b1, .slice p.a1 p.n1 p.c1, .bool p.b2, .slice p.a2 p.n2 p.c2]) o := by
    obtain ⟨b1, a1, n1, c1, b2, a2, n2, c2, e1, -, -, y⟩ := f1.opened
    simp only [Value.agg.injEq, Array.mk.injEq, List.cons.injEq, and_true, Value.slice.injEq] at e1
    obtain ⟨o, y⟩ := y (by omega) (by omega)
    refine ⟨o, ?_⟩
    obtain ⟨x1, ⟨x2, x3, x4⟩, x5, x6, x7, x8⟩ := e1
    rw [x1, x2, x3, x4, x5, x6, x7, x8]
    exact y
  obtain ⟨o2, y2⟩ : ∃ o, AnyF w (.agg #[.bool q.b1, .slice q.a1 q.n1 q.c1, .bool q.b2, .slice q.a2 q.n2 q.c2]) o := by
    obtain ⟨b1, a1, n1, c1, b2, a2, n2, c2, e1, -, -, y⟩ := f2.opened
    simp only [Value.agg.injEq, Array.mk.injEq, List.cons.injEq, and_true, Value.slice.injEq] at e1
    obtain ⟨o, y⟩ := y (by omega) (by omega)
    refine ⟨o, ?_⟩
    obtain ⟨x1, ⟨x2, x3, x4⟩, x5, x6, x7, x8⟩ := e1
    rw [x1, x2, x3, x4, x5, x6, x7, x8]
    exact y
  exact ⟨⟨nm, kd, co, o1, o2⟩, p, q, rfl, y1, y2, by show nm.size ≤ _; omega⟩
theorem pick_all {α β : Type} (R : α → β → Prop) : ∀ (vs : List β), (∀ v ∈ vs, ∃ r, R r v) → ∃ xs : List (α × β), xs.map (·.2) = vs ∧ ∀ x ∈ xs, R x.1 x.2
  | [], _ => ⟨[], rfl, by simp⟩
  | v :: vs, h => by
    obtain ⟨r, hr⟩ := h v (List.mem_cons_self ..)
    obtain ⟨xs, h1, h2⟩ := pick_all R vs fun u hu => h u (List.mem_cons_of_mem _ hu)
    refine ⟨(r, v) :: xs, by rw [List.map_cons, h1], fun x hx => ?_⟩
    rcases List.mem_cons.1 hx with rfl | hx
    · exact hr
    · exact h2 x hx
theorem inD_of {w : World} {s : Value} {vs : List Value} (h : InL w s vs) (hs : ∀ v ∈ vs, SmallV v) : ∃ xs : List (RD × Value), xs.map (·.2) = vs ∧ InD w s xs := by
  obtain ⟨xs, h1, h2⟩ := pick_all (fun r v => PartIn w v r) vs fun v hv => raw_in (h.raw v hv) (hs v hv)
  refine ⟨xs, h1, ?_, h2⟩
  have hl : xs.length = vs.length := by rw [← h1, List.length_map]
  rw [hl, h1]
  exact h.at'
end Go.Proofs.YtjelnmokcpoofaaGreatDoor
namespace Go.Proofs.YtjelnmokcpoofaaGreatDoor
set_option maxRecDepth 100000
open Go Go.RowKit Go.Proofs
def StopJ (p : Prop) : Prop := p
theorem stopJ {p : Prop} (h : StopJ p) : p := h
theorem catParse_long (s : ByteArray) (w : World) (hs : 65536 < s.size) : Calls Tryz.prog 6 #[.string s] w fun e w' => e = .returned (.tuple #[.pointer none, .int .i64 0, .int .i64 4]) ∧ Ext w w' := by
  have hs' : (65536 : Int) < (s.size : Int) := by omega
  clear hs
  go_enter Tryz.func6, Tryz.ntmps6
  go_wp2_with fail
  go_ret3
  exact ⟨rfl, Ext.refl _⟩
theorem all_nfJ {os es : List (PD × Value)} (h : os.map (·.1) = es.map (·.1)) (hok : ∀ x ∈ es, okPD x.1) {y : PD × Value} (hy : y ∈ os) : nf y.1.p ≤ 2048 ∧ nf y.1.q ≤ 2048 := by
  have hm : y.1 ∈ es.map (·.1) := by rw [← h]; exact List.mem_map.2 ⟨y, hy, rfl⟩
  obtain ⟨z, hz, e⟩ := List.mem_map.1 hm
  have := hok z hz
  rw [e] at this
  exact ⟨this.1, this.2.1⟩
theorem rising_ris {es : List (PD × Value)} (h : Rising es) : Ris (es.map (·.1)) := List.pairwise_map.2 h
theorem catParse_back {w : World} {ds : List PD} (hok : ∀ d ∈ ds, okPD d) (hr : Ris ds) (hl : ds.length ≤ 64) (s : ByteArray) (hs : s.data.toList = textB ds) (hz : s.size ≤ 65536) (hm : Max0 w) (ht : Tab10 w) :
    Calls Tryz.prog 6 #[.string s] w fun e w' => ∃ g M es, e = .returned (.tuple #[.pointer (some ⟨g, 0, none⟩), .int .i64 0, .int .i64 0]) ∧ Cat w' g M es ∧ es.map (·.1) = ds ∧ Ext w w' := by
  refine (catParse_gen s w ds [] 0 hz (by rw [hs, List.append_nil]) hok hr hl hm ht (.done rfl)).mono ?_
  rintro e w' (⟨-, g, M, es, h1, h2, h3, h4, -⟩ | ⟨h, -⟩)
  · exact ⟨g, M, es, h1, h2, h3, h4⟩
  · exact absurd rfl h
theorem catParse_cut {w : World} {ds : List PD} {t : List UInt8} (hok : ∀ d ∈ ds, okPD d) (hr : Ris ds) (hl : ds.length ≤ 64) (s : ByteArray) (hs : s.data.toList = textB ds ++ t) (h0 : t ≠ []) (h10 : (10 : UInt8) ∉ t) (hz : s.size ≤ 65536) (hm : Max0 w) (ht : Tab10 w) :
    Calls Tryz.prog 6 #[.string s] w fun e w' => e = .returned (.tuple #[.pointer none, .int .i64 ds.length, .int .i64 5]) ∧ Ext w w' := by
  refine (catParse_gen s w ds t 5 hz hs hok hr hl hm ht (.cut h0 (cutL_miss h10))).mono ?_
  rintro e w' (⟨h, -⟩ | ⟨-, h1, h2⟩)
  · exact absurd h (by decide)
  · exact ⟨h1, h2⟩
theorem catParse_twice {w : World} {ds : List PD} (hok : ∀ d ∈ ds, okPD d) (hr : Ris ds) (hl : ds.length ≤ 64) (hne : ds ≠ []) (s : ByteArray) (hs : s.data.toList = textB ds ++ textB ds) (hm : Max0 w) (ht : Tab10 w) :
    Calls Tryz.prog 6 #[.string s] w fun e w' => ∃ l c, e = .returned (.tuple #[.pointer none, .int .i64 l, .int .i64 c]) ∧ (c != 0) = true ∧ Ext w w' := by
  by_cases hz : s.size ≤ 65536
  · obtain ⟨d, r, rfl⟩ : ∃ d r, ds = d :: r := by
      cases ds with
      | nil => exact absurd rfl hne
      | cons d r => exact ⟨d, r, rfl⟩
    have hd := hok d (by simp)
    have hcut : cutL 10 (textB (d :: r)) = some (lineT d, textB r) := by rw [textB_cons]; exact cutL_hit (line_free hd.2.2.1)
    have hll : (lineT d).length ≤ 65536 := by
      rw [textB_cons] at hs
      have := congrArg List.length hs
      rw [list_size, List.length_append, List.length_append] at this
      omega
    have hb : bytesBefore (lastN (d :: r)) (nmL d) = false := by
      unfold lastN
      cases r with
      | nil => exact bef_irr _
      | cons e r =>
        rw [List.getLast?_cons_cons]
        have hm : (e :: r).getLast? = some ((e :: r).getLast (by simp)) := List.getLast?_eq_some_getLast (by simp)
        rw [hm]
        exact bef_asym _ _ ((List.pairwise_cons.1 hr).1 _ (List.getLast_mem _))
    refine (catParse_gen s w (d :: r) (textB (d :: r)) 5 hz hs hok hr hl hm ht (.name _ _ d hcut (fun W e => read_line d W hd hll (hm.ext e) (tab_ext ht e)) hb)).mono ?_
    rintro e w' (⟨h, -⟩ | ⟨-, h1, h2⟩)
    · exact absurd h (by decide)
    · exact ⟨_, _, h1, by decide, h2⟩
  · refine (catParse_long s w (by omega)).mono ?_
    rintro e w' ⟨h1, h2⟩
    exact ⟨_, _, h1, by decide, h2⟩
theorem all_n (w : World) (g M : Nat) (es : List (PD × Value)) (h : Cat w g M es) : Calls Tryz.prog 10 #[.pointer (some ⟨g, 0, none⟩)] w fun e w' => ∃ a c, e = .returned (.slice a es.length c) ∧ Ext w w' := by
  refine (all_l w g M es h).mono ?_
  rintro e w' ⟨v, os, rfl, hO, ho, hx⟩
  have hl := congrArg List.length ho
  rw [List.length_map, List.length_map] at hl
  obtain ⟨a, c, rfl, -⟩ := hO.slice
  rw [hl]
  exact ⟨a, c, rfl, hx⟩
theorem text_end : ∀ {ds : List PD}, ds ≠ [] → (textB ds).getLast? = some 10
  | [], h => absurd rfl h
  | [d], _ => by
    rw [textB_cons]
    show (lineT d ++ 10 :: []).getLast? = some 10
    rw [List.getLast?_append]
    rfl
  | d :: e :: r, _ => by
    have ih := text_end (ds := e :: r) (by simp)
    rw [textB_cons]
    have e1 : lineT d ++ 10 :: textB (e :: r) = (lineT d ++ [10]) ++ textB (e :: r) := by simp
    rw [e1, List.getLast?_append, ih]
    rfl
/-- The byte ahead of a cut. -/
theorem cut_byte {l a t : List UInt8} {j : Nat} (hj : j < l.length) (h : l.take (j + 1) = a ++ t) (b : UInt8) (hb : (a ++ t).getLast? = some b) : l[j]? = some b := by
  rw [← h, List.take_succ_eq_append_getElem hj, List.getLast?_concat] at hb
  rw [List.getElem?_eq_getElem hj, hb]
theorem byte_facts (b c : UInt8) : ((b.toNat : Int) == (c.toNat : Int)) = (b == c) ∧ (b.toNat == c.toNat) = (b == c) := by
  refine ⟨?_, ?_⟩
  · rw [Bool.eq_iff_iff, beq_iff_eq, beq_iff_eq]
    constructor
    · intro h
      exact UInt8.toNat_inj.1 (by omega)
    · rintro rfl
      rfl
  · rw [Bool.eq_iff_iff, beq_iff_eq, beq_iff_eq]
    exact UInt8.toNat_inj
set_option maxRecDepth 100000 in
set_option maxHeartbeats 6400000 in
/-- **CatalogBack says so.** -/
theorem back_c (s : Value) (cutv : Int) (vs : List Value) (w : World) (h : InL w s vs) (h0 : 0 ≤ cutv) (h1 : cutv ≤ 65535) (hm : Max0 w) (ht : Tab10 w) :
    Calls Tryz.prog 4 #[s, .int .u16 cutv] w fun e w' => e = .returned (.bool true) ∧ Ext w w' := by
  obtain ⟨a, c, rfl, hca⟩ := h.slice
  have KA := mkHid (fun W (e : Ext w W) => alive25_c W (hm.ext e) (tab_ext ht e))
  have KF := mkHid (fun W (e : Ext w W) => fits_c _ vs W (h.ext e))
  have hL := mkHid (fun W (e : Ext w W) => h.ext e)
  have hM := mkHid (fun W (e : Ext w W) => hm.ext e)
  have hT := mkHid (fun W (e : Ext w W) => tab_ext ht e)
  clear h hm ht
  go_enter Tryz.func4, Tryz.ntmps4
  have tok : Tok 0 := .mk _
  go_wp2_with (first
    | ((have _t : Tok 0 := tok); clear _t; clear tok; (have tok : Tok 1 := .mk _); go_at_call 11; refine (KA.out _ (Ext.refl _)).mono ?_; rintro e w1 ⟨rfl, hE1⟩; replace hE1 := mkHid hE1)
    | ((have _t : Tok 1 := tok); clear _t; clear tok; (have tok : Tok 2 := .mk _); go_at_call 12; refine (KF.out _ hE1.out).mono ?_; rintro e w2 ⟨r, rfl, hr, hx⟩; (have hE2 := mkHid (hE1.out.trans hx)); replace hr := mkHid hr; clear hx; refine stopJ ?_))
  cases r with
  | false =>
    unfold StopJ
    clear tok
    have tok : Tok 7 := .mk _
    go_wp2_with (first
      | ((have _t : Tok 7 := tok); clear _t; clear tok; (have tok : Tok 8 := .mk _); go_at_call 11; refine (KA.out _ hE2.out).mono ?_; rintro e w3 ⟨rfl, hx⟩; (have hE3 := mkHid (hE2.out.trans hx)); clear hx))
    go_ret
    exact ⟨rfl, hE3.out⟩
  | true =>
    unfold StopJ
    clear tok
    obtain ⟨hvl, hsm⟩ := hr.out rfl
    obtain ⟨xs, hxs, hD⟩ := inD_of (hL.out w2 hE2.out) hsm
    have hxl : xs.length = vs.length := by rw [← hxs, List.length_map]
    have KFi := mkHid (filled_c _ xs w2 hD (by omega))
    clear hsm hD hxs hxl hvl hL KF KA hr
    have tok : Tok 13 := .mk _
    go_wp2_with ((have _t : Tok 13 := tok); clear _t; clear tok; (have tok : Tok 14 := .mk _); go_at_call 13; refine KFi.out.mono ?_; rintro e w3 ⟨g, M, es, ins, sv, rfl, hW, -⟩; (have hC3 := mkHid hW.cat); (have hE3 := mkHid (hE2.out.trans hW.ext)); clear hW; refine stopJ ?_)
    have hok : ∀ d ∈ es.map (·.1), okPD d := fun d hd => by
      obtain ⟨x, hx, rfl⟩ := List.mem_map.1 hd
      exact hC3.out.ok x hx
    have hris : Ris (es.map (·.1)) := rising_ris hC3.out.map.rising
    have hfew : (es.map (·.1)).length ≤ 64 := by rw [List.length_map]; exact hC3.out.few
    have hlen : (es.map (·.1)).length = es.length := List.length_map _
    have KTx := text_l w3 g M es hC3.out (hT.out _ hE3.out)
    unfold TextQ at KTx
    generalize hds : es.map (·.1) = ds at *
    replace hds := mkHid hds
    unfold StopJ
    by_cases hbig : (textB ds).length ≤ 65536
    · simp only [if_pos hbig] at KTx
      obtain ⟨S, hS⟩ : ∃ S : ByteArray, S = ⟨(textB ds).toArray⟩ := ⟨_, rfl⟩
      have hSl : S.data.toList = textB ds := by rw [hS]
      have hSz : S.size = (textB ds).length := by rw [hS, str_len]
      rw [← hS] at KTx
      have KP1 := mkHid (fun W (e : Ext w W) => catParse_back (w := W) hok hris hfew S hSl (by omega) (hM.out _ e) (hT.out _ e))
      replace KTx := mkHid KTx
      replace hok := mkHid hok
      replace hris := mkHid hris
      replace hlen := mkHid hlen
      clear hS KFi hE1 hE2
      have hArm := hds
      go_wp2_with (first
        | ((have _t : Tok 14 := tok); clear _t; clear tok; (have tok : Tok 15 := .mk _); go_at_call 8; refine KTx.out.mono ?_; rintro e w4 ⟨rfl, hx⟩; (have hC4 := mkHid (hC3.out.ext hx)); (have hE4 := mkHid (hE3.out.trans hx)); clear hx hC3 hE3)
        | ((have _t : Tok 15 := tok); clear _t; clear tok; (have tok : Tok 16 := .mk _); go_at_call 6; refine (KP1.out _ hE4.out).mono ?_; rintro e w5 ⟨g2, M2, es2, rfl, hD5, hd2, hx⟩; (have hC5 := mkHid (hC4.out.ext hx)); (have hE5 := mkHid (hE4.out.trans hx)); replace hD5 := mkHid hD5; replace hd2 := mkHid hd2; clear hx hC4 hE4)
        | ((have _t : Tok 16 := tok); clear _t; clear tok; (have tok : Tok 17 := .mk _); go_at_call 10; refine (all_l w5 g2 M2 es2 hD5.out).mono ?_; rintro e w6 ⟨v6, os6, rfl, hO6, ho6, hx⟩; (have hR6 := hO6.rowL); (obtain ⟨a6, c6, rfl, -⟩ := hO6.slice); (have hC6 := mkHid (hC5.out.ext hx)); (have hE6 := mkHid (hE5.out.trans hx)); replace hR6 := mkHid hR6; replace ho6 := mkHid ho6; clear hx hO6 hC5 hE5)
        | ((have _t : Tok 17 := tok); clear _t; clear tok; (have tok : Tok 18 := .mk _); go_at_call 10; refine (all_l w6 g M es hC6.out).mono ?_; rintro e w7 ⟨v7, os7, rfl, hO7, ho7, hx⟩; (have hR7 := hO7.rowL); (obtain ⟨a7, c7, rfl, -⟩ := hO7.slice); (have hC7 := mkHid (hC6.out.ext hx)); (have hE7 := mkHid (hE6.out.trans hx)); (have hq : os6.map (·.1) = os7.map (·.1) := by rw [ho6.out, ho7, hd2.out, hds.out]); (have KS := mkHid (sameParts_c _ _ os6 os7 w7 (hR6.out.ext hx) hR7 hq (fun y hy => all_nfJ ho6.out hD5.out.ok hy) (by have h1 := congrArg List.length ho6.out; have h2 := hD5.out.few; simp only [List.length_map] at h1; omega))); clear hx hO7 hC6 hE6 hR6 hR7 ho6 ho7 hq)
        | ((have _t : Tok 18 := tok); clear _t; clear tok; (have tok : Tok 19 := .mk _); go_at_call 9; refine KS.out.mono ?_; rintro e w8 ⟨rfl, hx⟩; (have hC8 := mkHid (hC7.out.ext hx)); (have hE8 := mkHid (hE7.out.trans hx)); clear hx hC7 hE7 KS hD5 hd2; refine stopJ ?_))
      have hs65 : S.size ≤ 65536 := by omega
      clear KP1 KTx hArm hbig tok
      unfold StopJ
      by_cases hnil : ds = []
      · subst hnil
        have hz : (S.size : Int) = 0 := by rw [hSz]; rfl
        have he0 : (es.length : Int) = 0 := by have := hlen.out; simp at this; omega
        clear hSl hSz hok hris hlen hfew hM hT
        have tok : Tok 20 := .mk _
        go_wp2_with ((have _t : Tok 20 := tok); clear _t; clear tok; (have tok : Tok 21 := .mk _); go_at_call 10; refine (all_l w8 g M es hC8.out).mono ?_; rintro e w9 ⟨v9, os9, rfl, hO9, ho9, hx⟩; (have hl9 := congrArg List.length ho9); (have hl9' : (os9.length : Int) = 0 := by (simp only [List.length_map] at hl9; omega)); (obtain ⟨a9, c9, rfl, -⟩ := hO9.slice); (have hE9 := mkHid (hE8.out.trans hx)); clear hx hO9 hl9 ho9)
        go_ret
        exact ⟨rfl, hE9.out⟩
      · have hpos : 0 < S.size := by
          rw [hSz]
          have := text_len ds
          have := List.length_pos_iff.2 hnil
          omega
        obtain ⟨k, hk⟩ : ∃ k, k = cutv.toNat % S.size := ⟨_, rfl⟩
        have hkl : k < S.size := by rw [hk]; exact Nat.mod_lt _ hpos
        have hmod : Int.tmod cutv (S.size : Int) = (k : Int) := by
          rw [Int.tmod_eq_emod_of_nonneg h0, hk]
          have : cutv = ((cutv.toNat : Nat) : Int) := by omega
          rw [this]
          rfl
        obtain ⟨m, t, hm, hcutk, ht10⟩ := take_text ds k hok.out (by omega)
        have hSS : (S ++ S).data.toList = textB ds ++ textB ds := by simp [hSl]
        have KP3 := mkHid (fun W (e : Ext w W) => catParse_twice (w := W) hok.out hris.out hfew hnil (S ++ S) hSS (hM.out _ e) (hT.out _ e))
        have hXl : (S.extract 0 k).data.toList = textB (ds.take m) ++ t := by rw [← hcutk, ← hSl]; simp
        have hXz : (S.extract 0 k).size ≤ 65536 := by rw [ByteArray.size_extract]; omega
        have hok2 : ∀ d ∈ ds.take m, okPD d := fun d hd => hok.out d (List.mem_of_mem_take hd)
        have hris2 : Ris (ds.take m) := List.Pairwise.sublist (List.take_sublist _ _) hris.out
        have hl2 : (ds.take m).length = m := by rw [List.length_take]; omega
        have hmod2 : cutv % (S.size : Int) = (k : Int) := by rw [← hmod, Int.tmod_eq_emod_of_nonneg h0]
        have hmn : (m : Int) < (es.length : Int) := by have := hlen.out; omega
        have hss : ¬ (9223372036854775807 : Int) < ((S.size + S.size : Nat) : Int) := by omega
        have hkl' : (k : Int) ≤ (S.size : Int) := by omega
        by_cases ht : t = []
        · subst ht
          rw [List.append_nil] at hXl hcutk
          have KP2 := fun W (e : Ext w W) => catParse_back (w := W) hok2 hris2 (by omega) (S.extract 0 k) hXl hXz (hM.out _ e) (hT.out _ e)
          cases k with
          | zero =>
            rw [show S.extract 0 0 = ByteArray.empty by simp] at KP2
            replace KP2 := mkHid KP2
            have hm0 : Int.tmod cutv (S.size : Int) = 0 := hmod
            have hm1 : cutv % (S.size : Int) = 0 := hmod2
            clear hmod hmod2 hkl'
            clear ht10
            replace hl2 := mkHid hl2
            clear hSl hSz hok hris hlen hfew hM hT hnil hk hkl hXl hXz hok2 hris2 hcutk hm
            clear hSS
            have tok : Tok 30 := .mk _
            go_wp2_with (first
              | ((have _t : Tok 30 := tok); clear _t; clear tok; (have tok : Tok 31 := .mk _); go_at_call 6; (with_reducible refine (KP2.out _ hE8.out).mono ?_); rintro e w9 ⟨g3, M3, es3, rfl, hD9, hd9, hx⟩; (have h3 : (es3.length : Int) < (es.length : Int) := (by have h4 := congrArg List.length hd9; rw [List.length_map, hl2.out] at h4; omega)); (have hC9 := mkHid (hC8.out.ext hx)); (have hE9 := mkHid (hE8.out.trans hx)); replace hD9 := mkHid hD9; clear hx hd9 hC8 hE8)
              | ((have _t : Tok 31 := tok); clear _t; clear tok; (have tok : Tok 32 := .mk _); go_at_call 10; refine (all_n w9 g M es hC9.out).mono ?_; rintro e w10 ⟨a10, c10, rfl, hx⟩; (have hC10 := mkHid (hC9.out.ext hx)); (have hD10 := mkHid (hD9.out.ext hx)); (have hE10 := mkHid (hE9.out.trans hx)); clear hx hC9 hD9 hE9)
              | ((have _t : Tok 32 := tok); clear _t; clear tok; (have tok : Tok 33 := .mk _); go_at_call 10; refine (all_n w10 g3 M3 es3 hD10.out).mono ?_; rintro e w11 ⟨a11, c11, rfl, hx⟩; (have hC11 := mkHid (hC10.out.ext hx)); (have hE11 := mkHid (hE10.out.trans hx)); clear hx hC10 hD10 hE10)
              | ((have _t : Tok 33 := tok); clear _t; clear tok; (have tok : Tok 34 := .mk _); go_at_call 10; refine (all_n w11 g M es hC11.out).mono ?_; rintro e w12 ⟨a12, c12, rfl, hx⟩; (have hE12 := mkHid (hE11.out.trans hx)); clear hx hC11 hE11)
              | ((have _t : Tok 34 := tok); clear _t; clear tok; (have tok : Tok 35 := .mk _); go_at_call 6; (with_reducible refine (KP3.out _ hE12.out).mono ?_); rintro e w13 ⟨l, cd, rfl, hcd, hx⟩; (have hE13 := mkHid (hE12.out.trans hx)); clear hx hE12))
            go_ret
            exact ⟨by first | rfl | rw [hcd], hE13.out⟩
          | succ j =>
            have hjs : j < S.size := by omega
            have hb : S[j] = 10 := by
              have hm0 : ds.take m ≠ [] := by
                intro e
                have h5 : (List.take (j + 1) (textB ds)).length = j + 1 := by rw [List.length_take]; omega
                rw [hcutk, e] at h5
                simp [textB] at h5
              have h2 := cut_byte (l := textB ds) (a := textB (ds.take m)) (j := j) (t := []) (by omega) (by rw [List.append_nil]; exact hcutk) 10 (by rw [List.append_nil]; exact text_end hm0)
              rw [← hSl] at h2
              have h3 := Lib.data_getElem? S j hjs
              rw [h3] at h2
              exact Option.some.inj h2
            have g2 : ((S[j].toNat : Int) == 10) = true := by rw [hb]; rfl
            have g1 : (S[j].toNat == 10) = true := by rw [hb]; rfl
            have hj0 : ((j : Int) + 1 == 0) = false := by simpa using (by omega : ¬ (j : Int) + 1 = 0)
            replace KP2 := mkHid KP2
            clear ht10 hb
            replace hl2 := mkHid hl2
            clear hSl hSz hok hris hlen hfew hM hT hnil hk hkl hXl hXz hok2 hris2 hcutk hm
            clear hSS
            have tok : Tok 30 := .mk _
            go_wp2_with (first
              | ((have _t : Tok 30 := tok); clear _t; clear tok; (have tok : Tok 31 := .mk _); go_at_call 6; (with_reducible refine (KP2.out _ hE8.out).mono ?_); rintro e w9 ⟨g3, M3, es3, rfl, hD9, hd9, hx⟩; (have h3 : (es3.length : Int) < (es.length : Int) := (by have h4 := congrArg List.length hd9; rw [List.length_map, hl2.out] at h4; omega)); (have hC9 := mkHid (hC8.out.ext hx)); (have hE9 := mkHid (hE8.out.trans hx)); replace hD9 := mkHid hD9; clear hx hd9 hC8 hE8)
              | ((have _t : Tok 31 := tok); clear _t; clear tok; (have tok : Tok 32 := .mk _); go_at_call 10; refine (all_n w9 g M es hC9.out).mono ?_; rintro e w10 ⟨a10, c10, rfl, hx⟩; (have hC10 := mkHid (hC9.out.ext hx)); (have hD10 := mkHid (hD9.out.ext hx)); (have hE10 := mkHid (hE9.out.trans hx)); clear hx hC9 hD9 hE9)
              | ((have _t : Tok 32 := tok); clear _t; clear tok; (have tok : Tok 33 := .mk _); go_at_call 10; refine (all_n w10 g3 M3 es3 hD10.out).mono ?_; rintro e w11 ⟨a11, c11, rfl, hx⟩; (have hC11 := mkHid (hC10.out.ext hx)); (have hE11 := mkHid (hE10.out.trans hx)); clear hx hC10 hD10 hE10)
              | ((have _t : Tok 33 := tok); clear _t; clear tok; (have tok : Tok 34 := .mk _); go_at_call 10; refine (all_n w11 g M es hC11.out).mono ?_; rintro e w12 ⟨a12, c12, rfl, hx⟩; (have hE12 := mkHid (hE11.out.trans hx)); clear hx hC11 hE11)
              | ((have _t : Tok 34 := tok); clear _t; clear tok; (have tok : Tok 35 := .mk _); go_at_call 6; (with_reducible refine (KP3.out _ hE12.out).mono ?_); rintro e w13 ⟨l, cd, rfl, hcd, hx⟩; (have hE13 := mkHid (hE12.out.trans hx)); clear hx hE12))
            go_ret
            exact ⟨by first | rfl | rw [hcd], hE13.out⟩
        · have KP2 := fun W (e : Ext w W) => catParse_cut (w := W) hok2 hris2 (by omega) (S.extract 0 k) hXl ht ht10 hXz (hM.out _ e) (hT.out _ e)
          rw [hl2] at KP2
          replace KP2 := mkHid KP2
          cases k with
          | zero =>
            exfalso
            rw [List.take_zero] at hcutk
            have := congrArg List.length hcutk
            rw [List.length_append] at this
            have := List.length_pos_iff.2 ht
            simp at *
            omega
          | succ j =>
            have hjs : j < S.size := by omega
            have hb : S[j] ≠ 10 := by
              intro e
              have h3 := Lib.data_getElem? S j hjs
              rw [hSl] at h3
              obtain ⟨b, hb⟩ : ∃ b, t.getLast? = some b := by
                cases hl : t.getLast? with
                | none => exact absurd (List.getLast?_eq_none_iff.1 hl) ht
                | some b => exact ⟨b, rfl⟩
              have h2 := cut_byte (l := textB ds) (j := j) (by omega) hcutk b (by rw [List.getLast?_append, hb]; rfl)
              rw [h2] at h3
              have h4 := Option.some.inj h3
              rw [e] at h4
              exact ht10 (h4 ▸ List.mem_of_getLast? hb)
            have g2 : ((S[j].toNat : Int) == 10) = false := by
              have := (byte_facts S[j] 10).1
              rw [show ((10 : UInt8).toNat : Int) = 10 from rfl] at this
              rw [this]
              simpa using hb
            have g1 : (S[j].toNat == 10) = false := by
              have := (byte_facts S[j] 10).2
              rw [show ((10 : UInt8).toNat) = 10 from rfl] at this
              rw [this]
              simpa using hb
            have hj0 : ((j : Int) + 1 == 0) = false := by simpa using (by omega : ¬ (j : Int) + 1 = 0)
            have hnm : ¬ es.length < m := by omega
            clear ht10 hb ht
            replace hl2 := mkHid hl2
            clear hSl hSz hok hris hlen hfew hM hT hnil hk hkl hXl hXz hok2 hris2 hcutk hm
            clear hSS
            have tok : Tok 30 := .mk _
            go_wp2_with (first
              | ((have _t : Tok 30 := tok); clear _t; clear tok; (have tok : Tok 31 := .mk _); go_at_call 6; (with_reducible refine (KP2.out _ hE8.out).mono ?_); rintro e w9 ⟨rfl, hx⟩; (have hC9 := mkHid (hC8.out.ext hx)); (have hE9 := mkHid (hE8.out.trans hx)); clear hx hC8 hE8)
              | ((have _t : Tok 31 := tok); clear _t; clear tok; (have tok : Tok 34 := .mk _); go_at_call 10; refine (all_n w9 g M es hC9.out).mono ?_; rintro e w12 ⟨a10, c10, rfl, hx⟩; (have hE12 := mkHid (hE9.out.trans hx)); clear hx hC9 hE9)
              | ((have _t : Tok 34 := tok); clear _t; clear tok; (have tok : Tok 35 := .mk _); go_at_call 6; (with_reducible refine (KP3.out _ hE12.out).mono ?_); rintro e w13 ⟨l, cd, rfl, hcd, hx⟩; (have hE13 := mkHid (hE12.out.trans hx)); clear hx hE12))
            go_ret
            exact ⟨by first | rfl | rw [hcd], hE13.out⟩
    · simp only [if_neg hbig] at KTx
      replace KTx := mkHid KTx
      clear hok hris hfew hlen hbig
      go_wp2_with ((have _t : Tok 14 := tok); clear _t; clear tok; (have tok : Tok 15 := .mk _); go_at_call 8; refine KTx.out.mono ?_; rintro e w4 ⟨rfl, hx⟩; (have hE4 := mkHid (hE3.out.trans hx)); clear hx hC3 hE3)
      go_ret
      exact ⟨rfl, hE4.out⟩
end Go.Proofs.YtjelnmokcpoofaaGreatDoor
