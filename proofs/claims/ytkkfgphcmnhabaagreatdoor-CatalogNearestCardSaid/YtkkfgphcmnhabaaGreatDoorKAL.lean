/-
  The catalogue's Near. The catalogue's Text. law25: what alive rests on, in plain words. The reference's own, Own: a part in new rows: printed by tools/gen_own.py. law25: small, lens.
-/
import Derived.Test.YtkkfgphcmnhabaaGreatDoorKAK
import Derived.Test.YtkkfgphcmnhabaaGreatDoorKAJ
import Derived.Laws.EntriesVeiled
import Derived.Test.YtkkfgphcmnhabaaGreatDoorKAH
import Derived.Test.YtkkfgphcmnhabaaGreatDoorKAG
import Derived.LoopN
import Derived.Test.YtkkfgphcmnhabaaGreatDoorKAF
import Derived.Test.YtkkfgphcmnhabaaGreatDoorKAI
namespace Go.Proofs.YtkkfgphcmnhabaaGreatDoor
set_option maxRecDepth 100000
open Go Go.RowKit Go.Proofs
theorem OutP.slice {lo : Nat} {w : World} {s : Value} {os : List (PD × Value)} (h : OutP lo w s os) : ∃ a c, s = .slice a os.length c ∧ (os ≠ [] → ∃ g, a = some ⟨g, 0, none⟩) := by
  rcases h.row.2 with ⟨e, h0⟩ | ⟨g, cap, cur, e, -⟩
  · have h0' : os = [] := List.eq_nil_of_length_eq_zero (by simpa using h0)
    subst h0'
    exact ⟨none, 0, e, fun h => absurd rfl h⟩
  · exact ⟨_, cap, e, fun _ => ⟨g, rfl⟩⟩
theorem delete_c (lo : Nat) (w : World) (s : Value) (os : List (PD × Value)) (h : OutP lo w s os) (hl : os.length ≤ 64) :
    Calls Tryz.prog 40 #[s, .func (.func 41) #[] #[]] w (DelQ lo w s os) := by
  cases hf : firstNo os with
  | none => exact delete_none lo w s os h hl hf
  | some i =>
    obtain ⟨hi, -⟩ := first_take hf
    obtain ⟨a, c, rfl, ha⟩ := h.slice
    obtain ⟨g, rfl⟩ := ha (by intro e; rw [e] at hi; simp at hi)
    exact delete_some lo w g _ c os h hl i hf
def NearQ (w : World) (x : Rat) (es : List (PD × Value)) (e : Ending) (w' : World) : Prop := ∃ v d, e = .returned (.tuple #[v, .int .i64 0]) ∧ nearG x none (es.map (·.1)) = some d ∧ PartK w.heap.size w' v d ∧ Ext w w'
theorem filter_fst (os : List (PD × Value)) : (os.filter lensX).map (·.1) = (os.map (·.1)).filter lensB := by
  rw [List.filter_map]
  rfl
theorem Rising.bef {es : List (PD × Value)} (hr : Rising es) : (es.map (·.1)).Pairwise (fun a b => bef a b = true) := by
  rw [List.pairwise_map]
  exact hr
theorem near_fst {es os : List (PD × Value)} (hr : Rising es) (he : os.map (·.1) = es.map (·.1)) (x : Rat) {m0 : PD × Value} {r : List (PD × Value)} (h : os.filter lensX = m0 :: r) : nearG x none (es.map (·.1)) = some (minX x m0 r).1 := by
  rw [near_both x (es.map (·.1)) hr.bef, ← he, ← filter_fst, h]
  show some (minF x m0.1 (r.map (·.1))) = _
  rw [minX_fst]
theorem near_nf {es os : List (PD × Value)} (he : os.map (·.1) = es.map (·.1)) (hok : ∀ y ∈ es, okPD y.1) {m0 : PD × Value} {r : List (PD × Value)} (h : os.filter lensX = m0 :: r) : ∀ y ∈ m0 :: r, nf y.1.p ≤ 2048 := by
  intro y hy
  rw [← h] at hy
  have h1 : y.1 ∈ os.map (·.1) := List.mem_map.2 ⟨y, (List.mem_filter.1 hy).1, rfl⟩
  rw [he] at h1
  obtain ⟨z, hz, e⟩ := List.mem_map.1 h1
  rw [← e]
  exact (hok z hz).1
theorem minX_in (x : Rat) (m : PD × Value) (r : List (PD × Value)) : minX x m r ∈ m :: r := by
  rcases minX_mem x r m with h | h
  · rw [h]; exact List.mem_cons_self ..
  · exact List.mem_cons_of_mem _ h
set_option maxHeartbeats 1600000 in
theorem near_arg (pw : FV) (w : World) (g M : Nat) (es : List (PD × Value)) (h : Cat w g M es) (hp : AnyF w (.agg #[.bool pw.b1, .slice pw.a1 pw.n1 pw.c1, .bool pw.b2, .slice pw.a2 pw.n2 pw.c2]) none) :
    Calls Tryz.prog 17 #[.pointer (some ⟨g, 0, none⟩), .agg #[.bool pw.b1, .slice pw.a1 pw.n1 pw.c1, .bool pw.b2, .slice pw.a2 pw.n2 pw.c2]] w fun e w' => e = .returned (.tuple #[zeroPart, .int .i64 1]) ∧ Ext w w' := by
  obtain ⟨wb, hwb⟩ : ∃ wb, wb = (w.alloc (.cells #[.bool pw.b1, .slice pw.a1 pw.n1 pw.c1, .bool pw.b2, .slice pw.a2 pw.n2 pw.c2] 34)).alloc (.cells #[.string ⟨#[]⟩, .int .u8 0, .bool false, .slice none 0 0, .bool false, .slice none 0 0, .bool false, .slice none 0 0, .bool false, .slice none 0 0, .int .i64 0] 38) := ⟨_, rfl⟩
  have hE : Ext w wb := by rw [hwb]; exact ((Ext.refl w).al _).al _
  have z0 := mkHid (show wb.heap[w.heap.size]? = some (.cells #[.bool pw.b1, .slice pw.a1 pw.n1 pw.c1, .bool pw.b2, .slice pw.a2 pw.n2 pw.c2] 34 (0, 0)) by rw [hwb]; exact (heap_alloc_old _ _ (by simp)).trans (heap_alloc_new _ _))
  have zR := mkHid (show wb.heap[w.heap.size + 1]? = some (.cells #[.string ⟨#[]⟩, .int .u8 0, .bool false, .slice none 0 0, .bool false, .slice none 0 0, .bool false, .slice none 0 0, .bool false, .slice none 0 0, .int .i64 0] 38 (0, 0)) by rw [hwb]; exact heap_at _ _ _ (by simp))
  have hG := mkHid (gone_l g M wb (h.ext hE).str)
  have hK := mkHid (check_f _ _ wb (hp.ext hE))
  replace hE := mkHid hE
  replace hwb := mkHid hwb
  clear h hp
  go_enter Tryz.func17, Tryz.ntmps17
  have tok : Tok 0 := .mk _
  go_wp2_with (first
    | ((have _t : Tok 0 := tok); clear _t; clear tok; (have tok : Tok 1 := .mk _); go_at_call 27; rw [← hwb.out]; refine hG.out.mono ?_; rintro e w' ⟨rfl, rfl⟩)
    | ((have _t : Tok 1 := tok); clear _t; clear tok; (have tok : Tok 2 := .mk _); refine wpList_load_row (by rfl) 34 (.tmp 3) rfl w.heap.size rfl 34 #[.bool pw.b1, .slice pw.a1 pw.n1 pw.c1, .bool pw.b2, .slice pw.a2 pw.n2 pw.c2] (0, 0) _ z0.out Tryz.underlying34 rfl (by kernel_rfl) ?_)
    | ((have _t : Tok 2 := tok); clear _t; clear tok; (have tok : Tok 3 := .mk _); go_at_call 37; refine hK.out.mono ?_; rintro e w2 ⟨rfl, hE2⟩; (have zR2 := mkHid (hE2.blk zR.out)); (have hE3 := mkHid ((hE.out.trans hE2).row (show w.heap.size ≤ w.heap.size + 1 by omega) #[.string ⟨#[]⟩, .int .u8 0, .bool false, .slice none 0 0, .bool false, .slice none 0 0, .bool false, .slice none 0 0, .bool false, .slice none 0 0, .int .i64 0])); clear hE2)
    | ((have _t : Tok 3 := tok); clear _t; clear tok; (have tok : Tok 4 := .mk _); refine wpList_store_row rfl 38 (.tmp 4) (.tmp 16) rfl (w.heap.size + 1) #[.string ⟨#[]⟩, .int .u8 0, .bool false, .slice none 0 0, .bool false, .slice none 0 0, .bool false, .slice none 0 0, .bool false, .slice none 0 0, .int .i64 0] rfl rfl 38 _ zR2.out (by kernel_rfl) rfl (by kernel_rfl) ?_))
  exact bodyPost_ret (results_row_tmp rfl _ _ (w.heap.size + 1) 38 #[.string ⟨#[]⟩, .int .u8 0, .bool false, .slice none 0 0, .bool false, .slice none 0 0, .bool false, .slice none 0 0, .bool false, .slice none 0 0, .int .i64 0] _ _ rfl rfl (setRow_heap _ _ _ _ _ _ zR2.out) Tryz.underlying38 rfl (by kernel_rfl)) rfl ⟨rfl, hE3.out⟩
set_option maxHeartbeats 1600000 in
theorem near_none (pw : FV) (x : Rat) (w : World) (g M : Nat) (es : List (PD × Value)) (h : Cat w g M es) (hp0 : AnyF w (.agg #[.bool pw.b1, .slice pw.a1 pw.n1 pw.c1, .bool pw.b2, .slice pw.a2 pw.n2 pw.c2]) (some x)) (hne : (es.map (·.1)).filter lensB = []) :
    Calls Tryz.prog 17 #[.pointer (some ⟨g, 0, none⟩), .agg #[.bool pw.b1, .slice pw.a1 pw.n1 pw.c1, .bool pw.b2, .slice pw.a2 pw.n2 pw.c2]] w fun e w' => e = .returned (.tuple #[zeroPart, .int .i64 11]) ∧ Ext w w' := by
  obtain ⟨hp, hx⟩ := hp0.frac
  obtain ⟨wb, hwb⟩ : ∃ wb, wb = (w.alloc (.cells #[.bool pw.b1, .slice pw.a1 pw.n1 pw.c1, .bool pw.b2, .slice pw.a2 pw.n2 pw.c2] 34)).alloc (.cells #[.string ⟨#[]⟩, .int .u8 0, .bool false, .slice none 0 0, .bool false, .slice none 0 0, .bool false, .slice none 0 0, .bool false, .slice none 0 0, .int .i64 0] 38) := ⟨_, rfl⟩
  have hE : Ext w wb := by rw [hwb]; exact ((Ext.refl w).al _).al _
  have z0 := mkHid (show wb.heap[w.heap.size]? = some (.cells #[.bool pw.b1, .slice pw.a1 pw.n1 pw.c1, .bool pw.b2, .slice pw.a2 pw.n2 pw.c2] 34 (0, 0)) by rw [hwb]; exact (heap_alloc_old _ _ (by simp)).trans (heap_alloc_new _ _))
  have zR := mkHid (show wb.heap[w.heap.size + 1]? = some (.cells #[.string ⟨#[]⟩, .int .u8 0, .bool false, .slice none 0 0, .bool false, .slice none 0 0, .bool false, .slice none 0 0, .bool false, .slice none 0 0, .int .i64 0] 38 (0, 0)) by rw [hwb]; exact heap_at _ _ _ (by simp))
  have hsz := mkHid (show wb.heap.size = w.heap.size + 2 by rw [hwb]; simp)
  have hG := mkHid (gone_l g M wb (h.ext hE).str)
  have hK := mkHid (check_f _ _ wb (hp0.ext hE))
  have hA := mkHid (fun W (e : Ext w W) => all_l W g M es (h.ext e))
  have hri := mkHid h.map.rising
  have hok := mkHid h.ok
  have hfew := mkHid h.few
  have hP := mkHid (fun W (e : Ext w W) => hp.ext e)
  replace hE := mkHid hE
  replace hwb := mkHid hwb
  replace hx := mkHid hx
  replace hne := mkHid hne
  clear h hp hp0
  go_enter Tryz.func17, Tryz.ntmps17
  have tok : Tok 0 := .mk _
  go_wp2_with (first
    | ((have _t : Tok 0 := tok); clear _t; clear tok; (have tok : Tok 1 := .mk _); go_at_call 27; rw [← hwb.out]; refine hG.out.mono ?_; rintro e w' ⟨rfl, rfl⟩)
    | ((have _t : Tok 1 := tok); clear _t; clear tok; (have tok : Tok 2 := .mk _); refine wpList_load_row (by rfl) 34 (.tmp 3) rfl w.heap.size rfl 34 #[.bool pw.b1, .slice pw.a1 pw.n1 pw.c1, .bool pw.b2, .slice pw.a2 pw.n2 pw.c2] (0, 0) _ z0.out Tryz.underlying34 rfl (by kernel_rfl) ?_)
    | ((have _t : Tok 2 := tok); clear _t; clear tok; (have tok : Tok 3 := .mk _); go_at_call 37; refine hK.out.mono ?_; rintro e w2 ⟨rfl, hx2⟩; replace z0 := mkHid (hx2.blk z0.out); replace zR := mkHid (hx2.blk zR.out); replace hE := mkHid (hE.out.trans hx2); (have hs2 := mkHid (show w.heap.size + 2 ≤ w2.heap.size by have := hx2.size; have := hsz.out; omega)); clear hx2)
    | ((have _t : Tok 3 := tok); clear _t; clear tok; (have tok : Tok 4 := .mk _); go_at_call 8;
        (obtain ⟨w3, hw3⟩ : ∃ W, W = w2.alloc (.cells #[.func (.func 38) #[] #[.pointer (some ⟨w.heap.size, 0, none⟩)]] 81) := ⟨_, rfl⟩); rw [← hw3]; (have hx3 : Ext w2 w3 := by rw [hw3]; exact (Ext.refl _).al _); (have zF := mkHid (show w3.heap[w2.heap.size]? = some (.cells #[.func (.func 38) #[] #[.pointer (some ⟨w.heap.size, 0, none⟩)]] 81 (0, 0)) by rw [hw3]; exact heap_alloc_new _ _));
        replace z0 := mkHid (hx3.blk z0.out); replace zR := mkHid (hx3.blk zR.out); replace hE := mkHid (hE.out.trans hx3); (have hs3 := mkHid (show w2.heap.size < w3.heap.size by rw [hw3]; simp)); clear hx3; replace hw3 := mkHid hw3;
        refine (hA.out w3 hE.out).mono ?_; rintro e w4 ⟨v4, os, rfl, hO, hmap, hx4⟩; replace z0 := mkHid (hx4.blk z0.out); replace zR := mkHid (hx4.blk zR.out); replace zF := mkHid (hx4.blk zF.out); replace hE := mkHid (hE.out.trans hx4); (have hs4 := mkHid hx4.size); (have hol := mkHid (show os.length ≤ 64 by have h1 := congrArg List.length hmap; rw [List.length_map, List.length_map] at h1; have := hfew.out; omega)); replace hO := mkHid hO; replace hmap := mkHid hmap; clear hx4)
    | ((have _t : Tok 4 := tok); clear _t; clear tok; (have tok : Tok 5 := .mk _); go_at_call 40; refine (delete_c _ _ _ _ hO.out hol.out).mono ?_; rintro e w5 ⟨v5, rfl, hO5, hC5⟩;
        (have hb5 : ∀ k, k < w3.heap.size → w5.heap[k]? = w4.heap[k]? := fun k hk => hC5.block k (by have := hs4.out; omega) (fun e => by have := (hO.out.ownLt k e).1; omega));
        (have k1 : w.heap.size < w3.heap.size := by have := hs2.out; have := hs3.out; omega); (have k2 : w.heap.size + 1 < w3.heap.size := by have := hs2.out; have := hs3.out; omega);
        replace z0 := mkHid ((hb5 _ k1).trans z0.out); replace zR := mkHid ((hb5 _ k2).trans zR.out); replace zF := mkHid ((hb5 _ hs3.out).trans zF.out);
        replace hE := mkHid (hC5.ext w hE.out (fun k hk e => by have := (hO.out.ownLt k e).1; omega)); (obtain ⟨a5, c5, rfl, ha5⟩ := hO5.slice); replace hO5 := mkHid hO5; (have hs5 := mkHid (show w3.heap.size ≤ w5.heap.size by have := hs4.out; have := hC5.size; omega)); clear hC5 hb5; replace ha5 := mkHid ha5;
        (have hfil := mkHid (show (os.filter lensX).map (·.1) = (es.map (·.1)).filter lensB by rw [filter_fst, hmap.out])); (have hz5 : (os.filter lensX).length = 0 := by (have := congrArg List.length hfil.out; rw [hne.out, List.length_map] at this; simpa using this)); rw [hz5]; clear hz5; (have hE6 := mkHid (hE.out.row (show w.heap.size ≤ w.heap.size + 1 by omega) #[.string ⟨#[]⟩, .int .u8 0, .bool false, .slice none 0 0, .bool false, .slice none 0 0, .bool false, .slice none 0 0, .bool false, .slice none 0 0, .int .i64 0])))
    | ((have _t : Tok 5 := tok); clear _t; clear tok; (have tok : Tok 6 := .mk _); refine wpList_store_row rfl 38 (.tmp 4) (.tmp 24) rfl (w.heap.size + 1) #[.string ⟨#[]⟩, .int .u8 0, .bool false, .slice none 0 0, .bool false, .slice none 0 0, .bool false, .slice none 0 0, .bool false, .slice none 0 0, .int .i64 0] rfl rfl 38 _ zR.out (by kernel_rfl) rfl (by kernel_rfl) ?_))
  exact bodyPost_ret (results_row_tmp rfl _ _ (w.heap.size + 1) 38 #[.string ⟨#[]⟩, .int .u8 0, .bool false, .slice none 0 0, .bool false, .slice none 0 0, .bool false, .slice none 0 0, .bool false, .slice none 0 0, .int .i64 0] _ _ rfl rfl (setRow_heap _ _ _ _ _ _ zR.out) Tryz.underlying38 rfl (by kernel_rfl)) rfl ⟨rfl, hE6.out⟩
set_option maxHeartbeats 3200000 in
theorem near_ok (pw : FV) (x : Rat) (w : World) (g M : Nat) (es : List (PD × Value)) (h : Cat w g M es) (hp0 : AnyF w (.agg #[.bool pw.b1, .slice pw.a1 pw.n1 pw.c1, .bool pw.b2, .slice pw.a2 pw.n2 pw.c2]) (some x)) (hne : (es.map (·.1)).filter lensB ≠ []) :
    Calls Tryz.prog 17 #[.pointer (some ⟨g, 0, none⟩), .agg #[.bool pw.b1, .slice pw.a1 pw.n1 pw.c1, .bool pw.b2, .slice pw.a2 pw.n2 pw.c2]] w (NearQ w x es) := by
  obtain ⟨hp, hx⟩ := hp0.frac
  obtain ⟨wb, hwb⟩ : ∃ wb, wb = (w.alloc (.cells #[.bool pw.b1, .slice pw.a1 pw.n1 pw.c1, .bool pw.b2, .slice pw.a2 pw.n2 pw.c2] 34)).alloc (.cells #[.string ⟨#[]⟩, .int .u8 0, .bool false, .slice none 0 0, .bool false, .slice none 0 0, .bool false, .slice none 0 0, .bool false, .slice none 0 0, .int .i64 0] 38) := ⟨_, rfl⟩
  have hE : Ext w wb := by rw [hwb]; exact ((Ext.refl w).al _).al _
  have z0 := mkHid (show wb.heap[w.heap.size]? = some (.cells #[.bool pw.b1, .slice pw.a1 pw.n1 pw.c1, .bool pw.b2, .slice pw.a2 pw.n2 pw.c2] 34 (0, 0)) by rw [hwb]; exact (heap_alloc_old _ _ (by simp)).trans (heap_alloc_new _ _))
  have zR := mkHid (show wb.heap[w.heap.size + 1]? = some (.cells #[.string ⟨#[]⟩, .int .u8 0, .bool false, .slice none 0 0, .bool false, .slice none 0 0, .bool false, .slice none 0 0, .bool false, .slice none 0 0, .int .i64 0] 38 (0, 0)) by rw [hwb]; exact heap_at _ _ _ (by simp))
  have hsz := mkHid (show wb.heap.size = w.heap.size + 2 by rw [hwb]; simp)
  have hG := mkHid (gone_l g M wb (h.ext hE).str)
  have hK := mkHid (check_f _ _ wb (hp0.ext hE))
  have hA := mkHid (fun W (e : Ext w W) => all_l W g M es (h.ext e))
  have hri := mkHid h.map.rising
  have hok := mkHid h.ok
  have hfew := mkHid h.few
  have hP := mkHid (fun W (e : Ext w W) => hp.ext e)
  replace hE := mkHid hE
  replace hwb := mkHid hwb
  replace hx := mkHid hx
  replace hne := mkHid hne
  clear h hp hp0
  go_enter Tryz.func17, Tryz.ntmps17
  have tok : Tok 0 := .mk _
  go_wp2_with (first
    | ((have _t : Tok 0 := tok); clear _t; clear tok; (have tok : Tok 1 := .mk _); go_at_call 27; rw [← hwb.out]; refine hG.out.mono ?_; rintro e w' ⟨rfl, rfl⟩)
    | ((have _t : Tok 1 := tok); clear _t; clear tok; (have tok : Tok 2 := .mk _); refine wpList_load_row (by rfl) 34 (.tmp 3) rfl w.heap.size rfl 34 #[.bool pw.b1, .slice pw.a1 pw.n1 pw.c1, .bool pw.b2, .slice pw.a2 pw.n2 pw.c2] (0, 0) _ z0.out Tryz.underlying34 rfl (by kernel_rfl) ?_)
    | ((have _t : Tok 2 := tok); clear _t; clear tok; (have tok : Tok 3 := .mk _); go_at_call 37; refine hK.out.mono ?_; rintro e w2 ⟨rfl, hx2⟩; replace z0 := mkHid (hx2.blk z0.out); replace zR := mkHid (hx2.blk zR.out); replace hE := mkHid (hE.out.trans hx2); (have hs2 := mkHid (show w.heap.size + 2 ≤ w2.heap.size by have := hx2.size; have := hsz.out; omega)); clear hx2)
    | ((have _t : Tok 3 := tok); clear _t; clear tok; (have tok : Tok 4 := .mk _); go_at_call 8;
        (obtain ⟨w3, hw3⟩ : ∃ W, W = w2.alloc (.cells #[.func (.func 38) #[] #[.pointer (some ⟨w.heap.size, 0, none⟩)]] 81) := ⟨_, rfl⟩); rw [← hw3]; (have hx3 : Ext w2 w3 := by rw [hw3]; exact (Ext.refl _).al _); (have zF := mkHid (show w3.heap[w2.heap.size]? = some (.cells #[.func (.func 38) #[] #[.pointer (some ⟨w.heap.size, 0, none⟩)]] 81 (0, 0)) by rw [hw3]; exact heap_alloc_new _ _));
        replace z0 := mkHid (hx3.blk z0.out); replace zR := mkHid (hx3.blk zR.out); replace hE := mkHid (hE.out.trans hx3); (have hs3 := mkHid (show w2.heap.size < w3.heap.size by rw [hw3]; simp)); clear hx3; replace hw3 := mkHid hw3;
        refine (hA.out w3 hE.out).mono ?_; rintro e w4 ⟨v4, os, rfl, hO, hmap, hx4⟩; replace z0 := mkHid (hx4.blk z0.out); replace zR := mkHid (hx4.blk zR.out); replace zF := mkHid (hx4.blk zF.out); replace hE := mkHid (hE.out.trans hx4); (have hs4 := mkHid hx4.size); (have hol := mkHid (show os.length ≤ 64 by have h1 := congrArg List.length hmap; rw [List.length_map, List.length_map] at h1; have := hfew.out; omega)); replace hO := mkHid hO; replace hmap := mkHid hmap; clear hx4)
    | ((have _t : Tok 4 := tok); clear _t; clear tok; (have tok : Tok 5 := .mk _); go_at_call 40; refine (delete_c _ _ _ _ hO.out hol.out).mono ?_; rintro e w5 ⟨v5, rfl, hO5, hC5⟩;
        (have hb5 : ∀ k, k < w3.heap.size → w5.heap[k]? = w4.heap[k]? := fun k hk => hC5.block k (by have := hs4.out; omega) (fun e => by have := (hO.out.ownLt k e).1; omega));
        (have k1 : w.heap.size < w3.heap.size := by have := hs2.out; have := hs3.out; omega); (have k2 : w.heap.size + 1 < w3.heap.size := by have := hs2.out; have := hs3.out; omega);
        replace z0 := mkHid ((hb5 _ k1).trans z0.out); replace zR := mkHid ((hb5 _ k2).trans zR.out); replace zF := mkHid ((hb5 _ hs3.out).trans zF.out);
        replace hE := mkHid (hC5.ext w hE.out (fun k hk e => by have := (hO.out.ownLt k e).1; omega)); (obtain ⟨a5, c5, rfl, ha5⟩ := hO5.slice); replace hO5 := mkHid hO5; (have hs5 := mkHid (show w3.heap.size ≤ w5.heap.size by have := hs4.out; have := hC5.size; omega)); clear hC5 hb5; replace ha5 := mkHid ha5;
        (have hfil := mkHid (show (os.filter lensX).map (·.1) = (es.map (·.1)).filter lensB by rw [filter_fst, hmap.out])); (obtain ⟨m0, r, hmr⟩ := List.exists_cons_of_ne_nil (show os.filter lensX ≠ [] from fun he => hne.out (by rw [← hfil.out, he]; rfl)));
        (have hO6 := hO5.out); (have ha6 := ha5.out); rw [hmr] at hO6 ha6 ⊢; (obtain ⟨g5, rfl⟩ := ha6 (by simp)); (obtain ⟨-, hc1, hc2, hlg, rest, -, hr5⟩ := hO6.rowC);
        (have hnf := near_nf hmap.out hok.out hmr);
        (obtain ⟨n5, hn5⟩ : ∃ n, n = (m0 :: r).length := ⟨_, rfl⟩);
        (have hn64 : n5 ≤ 64 := by rw [hn5, ← hmr]; exact Nat.le_trans (List.length_filter_le _ _) hol.out);
        (have MC := min_c m0 r rest g5 c5 x pw w.heap.size w2.heap.size w5 hO6.allV (by rw [← hn5]; exact hn64) hr5 (fun y hy => (hO6.part y hy).r) hnf hx.out (hP.out _ hE.out) z0.out zF.out);
        (have hmem := minX_in x m0 r);
        (obtain ⟨dm, vm, hdm⟩ : ∃ d v, minX x m0 r = (d, v) := ⟨_, _, rfl⟩); rw [hdm] at MC hmem; (obtain ⟨pm, qm, em⟩ := hO6.allV _ hmem); (have em' : vm = .agg #[.string dm.nm, .int .u8 dm.kd, .bool pm.b1, .slice pm.a1 pm.n1 pm.c1, .bool pm.b2, .slice pm.a2 pm.n2 pm.c2, .bool qm.b1, .slice qm.a1 qm.n1 qm.c1, .bool qm.b2, .slice qm.a2 qm.n2 qm.c2, .int .i64 dm.co] := em); subst em'; rw [← hn5] at MC ⊢;
        (have hng := mkHid (show nearG x none (es.map (·.1)) = some dm by rw [near_fst hri.out hmap.out x hmr, hdm])); (have hPm := mkHid (show PartK w3.heap.size w5 (.agg #[.string dm.nm, .int .u8 dm.kd, .bool pm.b1, .slice pm.a1 pm.n1 pm.c1, .bool pm.b2, .slice pm.a2 pm.n2 pm.c2, .bool qm.b1, .slice qm.a1 qm.n1 qm.c1, .bool qm.b2, .slice qm.a2 qm.n2 qm.c2, .int .i64 dm.co]) dm from hO6.part _ hmem)); (have hn0 : ((n5 : Int) == 0) = false := by (have hp : 0 < n5 := by rw [hn5]; simp); (have hp2 : (n5 : Int) ≠ 0 := by omega); simpa using hp2); replace MC := mkHid MC; clear hO6 ha6 hr5 hnf hmem em hn64 hn5 hc1 hc2 hlg hdm hmr)
    | ((have _t : Tok 5 := tok); clear _t; clear tok; (have tok : Tok 6 := .mk _); go_at_call 42; refine MC.out.mono ?_; rintro e w6 hq; (obtain ⟨he6, hx6⟩ : e = .returned (.agg #[.string dm.nm, .int .u8 dm.kd, .bool pm.b1, .slice pm.a1 pm.n1 pm.c1, .bool pm.b2, .slice pm.a2 pm.n2 pm.c2, .bool qm.b1, .slice qm.a1 qm.n1 qm.c1, .bool qm.b2, .slice qm.a2 qm.n2 qm.c2, .int .i64 dm.co]) ∧ Ext w5 w6 := hq); subst he6; replace zR := mkHid (hx6.blk zR.out); (have hE7 := mkHid ((hE.out.trans hx6).row (show w.heap.size ≤ w.heap.size + 1 by omega) #[.string dm.nm, .int .u8 dm.kd, .bool pm.b1, .slice pm.a1 pm.n1 pm.c1, .bool pm.b2, .slice pm.a2 pm.n2 pm.c2, .bool qm.b1, .slice qm.a1 qm.n1 qm.c1, .bool qm.b2, .slice qm.a2 qm.n2 qm.c2, .int .i64 dm.co])); (have hP7 := mkHid (((hPm.out.ext hx6).row (g := w.heap.size + 1) (by have := hs2.out; have := hs3.out; omega) #[.string dm.nm, .int .u8 dm.kd, .bool pm.b1, .slice pm.a1 pm.n1 pm.c1, .bool pm.b2, .slice pm.a2 pm.n2 pm.c2, .bool qm.b1, .slice qm.a1 qm.n1 qm.c1, .bool qm.b2, .slice qm.a2 qm.n2 qm.c2, .int .i64 dm.co]).mono (show w.heap.size ≤ w3.heap.size by have := hs2.out; have := hs3.out; omega))); clear hx6)
    | ((have _t : Tok 6 := tok); clear _t; clear tok; (have tok : Tok 7 := .mk _); refine wpList_store_row rfl 38 (.tmp 4) (.tmp 27) rfl (w.heap.size + 1) #[.string dm.nm, .int .u8 dm.kd, .bool pm.b1, .slice pm.a1 pm.n1 pm.c1, .bool pm.b2, .slice pm.a2 pm.n2 pm.c2, .bool qm.b1, .slice qm.a1 qm.n1 qm.c1, .bool qm.b2, .slice qm.a2 qm.n2 qm.c2, .int .i64 dm.co] rfl rfl 38 _ zR.out (by kernel_rfl) rfl (by kernel_rfl) ?_))
  exact bodyPost_ret (results_row_tmp rfl _ _ (w.heap.size + 1) 38 #[.string dm.nm, .int .u8 dm.kd, .bool pm.b1, .slice pm.a1 pm.n1 pm.c1, .bool pm.b2, .slice pm.a2 pm.n2 pm.c2, .bool qm.b1, .slice qm.a1 qm.n1 qm.c1, .bool qm.b2, .slice qm.a2 qm.n2 qm.c2, .int .i64 dm.co] _ _ rfl rfl (setRow_heap _ _ _ _ _ _ zR.out) Tryz.underlying38 rfl (by kernel_rfl)) rfl ⟨_, dm, rfl, hng.out, hP7.out, hE7.out⟩
end Go.Proofs.YtkkfgphcmnhabaaGreatDoor
namespace Go.Proofs.YtkkfgphcmnhabaaGreatDoor
set_option maxRecDepth 100000
open Go Go.RowKit Go.Proofs Go.Lib
theorem ratText_len {x : Rat} (h : nf x ≤ 2048) : (ratText x).length ≤ 131077 := by
  have h1 := itoa_len x.num
  have h2 := itoa_len (x.den : Int)
  have h3 : nl x.num ≤ 2048 := Nat.le_trans (Nat.le_max_left _ _) h
  have h4 : nl (x.den : Int) ≤ 2048 := Nat.le_trans (Nat.le_max_right _ _) h
  unfold ratText
  split
  · omega
  · rw [List.length_append, List.length_cons]
    omega
theorem okPD.co {d : PD} (h : okPD d) : 0 ≤ d.co ∧ d.co ≤ 1073741824 := by
  have := h.2.2.2
  unfold mayP at this
  simp only [Bool.and_eq_true, decide_eq_true_eq] at this
  exact ⟨this.1, this.2.1⟩
theorem okPD.nm {d : PD} (h : okPD d) : d.nm.size ≤ 32 := by
  have := h.2.2.1
  unfold nameB at this
  simp only [Bool.and_eq_true, decide_eq_true_eq] at this
  have := this.2.1
  rw [Array.length_toList] at this
  exact this
theorem dec_small {n : Nat} (h : n ≤ 1073741824) : (decDigits n).length ≤ 32 := by
  rw [decDigits_length]
  exact nDig_le (k := 31) (by omega)
theorem headB_len {d : PD} (h : okPD d) : (headB d).length ≤ 73 := by
  obtain ⟨h1, h2⟩ := h.co
  have h3 := h.nm
  have h4 := wordB_len d.kd
  have h5 : (itoa d.co).length ≤ 32 := by
    unfold itoa
    rw [if_neg (by omega)]
    exact dec_small (by omega)
  unfold headB
  simp only [List.length_append, List.length_cons, Array.length_toList]
  have : d.nm.data.size = d.nm.size := rfl
  omega
theorem tailB_len : ∀ (l : List Rat), (∀ x ∈ l, nf x ≤ 2048) → (tailB l).length ≤ l.length * 131078
  | [], _ => by simp [tailB]
  | x :: r, h => by
    have ih := tailB_len r fun y hy => h y (List.mem_cons_of_mem _ hy)
    have h1 := ratText_len (h x (List.mem_cons_self ..))
    have : tailB (x :: r) = (32 :: ratText x) ++ tailB r := rfl
    rw [this, List.length_append, List.length_cons, List.length_cons]
    omega
theorem fracsB_ok {d : PD} (h : okPD d) : ∀ x ∈ fracsB d, nf x ≤ 2048 := by
  intro x hx
  have := List.mem_of_mem_take hx
  simp only [List.mem_cons, List.not_mem_nil, or_false] at this
  rcases this with rfl | rfl
  · exact h.1
  · exact h.2.1
theorem fracsB_len (d : PD) : (fracsB d).length = wordN d.kd := by
  unfold fracsB
  rw [List.length_take]
  have := wordN_le d.kd
  simp only [List.length_cons, List.length_nil]
  omega
theorem lineB_len {d : PD} (h : okPD d) : (lineB d).length ≤ 262300 := by
  have h1 := headB_len h
  have h2 := tailB_len (fracsB d) (fracsB_ok h)
  rw [fracsB_len] at h2
  have := wordN_le d.kd
  unfold lineB
  simp only [List.length_append, List.length_cons, List.length_nil]
  omega
theorem textB_len : ∀ (L : List PD), (∀ d ∈ L, okPD d) → (textB L).length ≤ L.length * 262300
  | [], _ => by simp [textB]
  | d :: r, h => by
    have ih := textB_len r fun y hy => h y (List.mem_cons_of_mem _ hy)
    have h1 := lineB_len (h d (List.mem_cons_self ..))
    have : textB (d :: r) = lineB d ++ textB r := rfl
    rw [this, List.length_append, List.length_cons]
    omega
theorem PartR.pq {w : World} {d : PD} {p q : FV} (h : PartR w (.agg #[.string d.nm, .int .u8 d.kd, .bool p.b1, .slice p.a1 p.n1 p.c1, .bool p.b2, .slice p.a2 p.n2 p.c2, .bool q.b1, .slice q.a1 q.n1 q.c1, .bool q.b2, .slice q.a2 q.n2 q.c2, .int .i64 d.co]) d) : FracR w (.agg #[.bool p.b1, .slice p.a1 p.n1 p.c1, .bool p.b2, .slice p.a2 p.n2 p.c2]) d.p ∧ FracR w (.agg #[.bool q.b1, .slice q.a1 q.n1 q.c1, .bool q.b2, .slice q.a2 q.n2 q.c2]) d.q := by
  obtain ⟨_, _, _, _, _, _, _, _, _, _, _, _, _, _, _, _, e, h1, h2⟩ := h
  simp only [Value.agg.injEq, Array.mk.injEq, List.cons.injEq, and_true, Value.bool.injEq, Value.slice.injEq, true_and] at e
  obtain ⟨rfl, ⟨rfl, rfl, rfl⟩, rfl, ⟨rfl, rfl, rfl⟩, rfl, ⟨rfl, rfl, rfl⟩, rfl, rfl, rfl, rfl⟩ := e
  exact ⟨h1, h2⟩
theorem head_str {d : PD} {n : Nat} (hn : d.co = n) {S1 S2 S3 S4 : ByteArray} (h1 : S1 = d.nm ++ ⟨#[32]⟩) (h2 : S2 = S1 ++ ⟨(decDigits n).toArray⟩) (h3 : S3 = S2 ++ ⟨#[32]⟩) (h4 : S4 = S3 ++ ⟨(wordB d.kd).toArray⟩) : Lib.strCells S4 = byteCells (headB d) := by
  rw [Lib.strCells_eq]
  congr 1
  subst h4 h3 h2 h1
  unfold headB itoa
  rw [hn, if_neg (by omega)]
  simp [ByteArray.data_append]
theorem cat_cells (a b : List UInt8) : byteCells a ++ byteCells b = byteCells (a ++ b) := by simp [byteCells]
theorem sp_cells (l : List UInt8) : Lib.strCells ((⟨#[32]⟩ : ByteArray) ++ ⟨l.toArray⟩) = byteCells (32 :: l) := by
  rw [Lib.strCells_eq]
  congr 1
theorem fracs_at {d : PD} {p q : FV} {i : Nat} (hi : i < (fracsB d).length) : ∃ (x : Rat) (f : FV), (fracsB d)[i] = x ∧ (#[.bool p.b1, .slice p.a1 p.n1 p.c1, .bool p.b2, .slice p.a2 p.n2 p.c2, .bool q.b1, .slice q.a1 q.n1 q.c1, .bool q.b2, .slice q.a2 q.n2 q.c2] : Array Value).extract (i * 4) (i * 4 + (#[.bool f.b1, .slice f.a1 f.n1 f.c1, .bool f.b2, .slice f.a2 f.n2 f.c2] : Array Value).size) = #[.bool f.b1, .slice f.a1 f.n1 f.c1, .bool f.b2, .slice f.a2 f.n2 f.c2] ∧ ∀ W, (FracR W (.agg #[.bool p.b1, .slice p.a1 p.n1 p.c1, .bool p.b2, .slice p.a2 p.n2 p.c2]) d.p ∧ FracR W (.agg #[.bool q.b1, .slice q.a1 q.n1 q.c1, .bool q.b2, .slice q.a2 q.n2 q.c2]) d.q) → FracR W (.agg #[.bool f.b1, .slice f.a1 f.n1 f.c1, .bool f.b2, .slice f.a2 f.n2 f.c2]) x := by
  have h2 : i < 2 := by have := fracsB_len d; have := wordN_le d.kd; omega
  unfold fracsB at hi ⊢
  rcases (show i = 0 ∨ i = 1 by omega) with rfl | rfl
  · exact ⟨d.p, p, by simp, rfl, fun W h => h.1⟩
  · exact ⟨d.q, q, by simp, rfl, fun W h => h.2⟩
def TxtR (wA : World) (lo b : Nat) (os : List (PD × Value)) (t16 : Value) (wr : World) : Prop :=
  ∃ k : Nat, k ≤ os.length ∧ t16 = .int .i64 k ∧ IsBuilt lo b (byteCells (textB ((os.take k).map (·.1)))) wr ∧ Chg wA wr (bS b lo)
def InR (wB : World) (lo b : Nat) (acc : List UInt8) (fs : List Rat) (t48 : Value) (wr : World) : Prop :=
  ∃ i : Nat, i ≤ fs.length ∧ t48 = .int .i64 i ∧ IsBuilt lo b (byteCells (acc ++ tailB (fs.take i))) wr ∧ Chg wB wr (bS b lo) ∧ Keeps b wB wr
def TextQ (w : World) (es : List (PD × Value)) (e : Ending) (w' : World) : Prop :=
  e = .returned (if (textB (es.map (·.1))).length ≤ 65536 then .tuple #[.string ⟨(textB (es.map (·.1))).toArray⟩, .int .i64 0] else .tuple #[.string ⟨#[]⟩, .int .i64 4]) ∧ Ext w w'
set_option maxHeartbeats 3200000 in
theorem text_l (w : World) (g M : Nat) (es : List (PD × Value)) (h : Cat w g M es) (ht : Tab10 w) :
    Calls Tryz.prog 24 #[.pointer (some ⟨g, 0, none⟩)] w (TextQ w es) := by
  obtain ⟨w1, hw1⟩ : ∃ w1, w1 = w.alloc (.cells #[.pointer none, .slice none 0 0] 95) := ⟨_, rfl⟩
  have hE1 : Ext w w1 := by rw [hw1]; exact (Ext.refl w).al _
  have hsz : w1.heap.size = w.heap.size + 1 := by rw [hw1]; simp
  have z1 : w1.heap[w.heap.size]? = some (.cells #[.pointer none, .slice none 0 0] 95 (0, 0)) := by rw [hw1]; exact heap_alloc_new _ _
  have hG := mkHid (gone_l g M w h.str)
  have hA := mkHid (all_l w1 g M es (h.ext hE1))
  have hok := mkHid h.ok
  have hfew := mkHid h.few
  have hT := mkHid (fun W (e : Ext w W) => tab_ext ht e)
  replace hw1 := mkHid hw1
  replace hE1 := mkHid hE1
  replace z1 := mkHid z1
  replace hsz := mkHid hsz
  clear h ht
  go_enter Tryz.func24, Tryz.ntmps24
  have tok : Tok 0 := .mk _
  go_wp2_with (first
    | ((have _t : Tok 0 := tok); clear _t; clear tok; (have tok : Tok 1 := .mk _); go_at_call 27; refine hG.out.mono ?_; rintro e w' ⟨rfl, rfl⟩)
    | ((have _t : Tok 1 := tok); clear _t; clear tok; (have tok : Tok 2 := .mk _); go_at_call 8; rw [← hw1.out]; refine hA.out.mono ?_; rintro e wA ⟨v, os, rfl, hO, hmap, hxA⟩; (obtain ⟨a, c, rfl, ha⟩ := hO.slice); replace hO := mkHid hO; replace hmap := mkHid hmap; replace hxA := mkHid hxA; replace ha := mkHid ha))
  clear tok hG hA
  have hol : os.length ≤ 64 := by
    have h1 := congrArg List.length hmap.out
    rw [List.length_map, List.length_map] at h1
    have := hfew.out
    omega
  have hoks : ∀ x ∈ os, okPD x.1 := by
    intro x hx
    have h1 : x.1 ∈ os.map (·.1) := List.mem_map.2 ⟨x, hx, rfl⟩
    rw [hmap.out] at h1
    obtain ⟨z, hz, e⟩ := List.mem_map.1 h1
    rw [← e]
    exact hok.out z hz
  have hba : w.heap.size < wA.heap.size := by have := hxA.out.size; have := hsz.out; omega
  have st : TxtR wA wA.heap.size w.heap.size os (.int .i64 0) wA := ⟨0, Nat.zero_le _, rfl, built_fresh hba (hxA.out.blk z1.out), Chg.refl _ _⟩
  replace st := mkHid st
  replace hoks := mkHid hoks
  go_loopw [16] (fun t16 wr => TxtR wA wA.heap.size w.heap.size os t16 wr) (fun t16 _ => os.length - (intOf t16).toNat)
  case atStart => exact st.out
  case round =>
    clear st
    obtain ⟨k, hk, rfl, hB, hch⟩ := hrel
    obtain ⟨w2, rfl⟩ : ∃ w2 : World, w2 = wr := ⟨_, rfl⟩
    have hEw : Ext w w2 := hch.ext w (hE1.out.trans hxA.out) fun k hk hs => by
      rcases hs with rfl | hs
      · omega
      · omega
    by_cases hlt : k < os.length
    · obtain ⟨gL, rfl⟩ := ha.out (by intro e; rw [e] at hlt; simp at hlt)
      obtain ⟨-, -, -, hlo, rest, -, hrow⟩ := hO.out.rowC
      have hgA : gL < wA.heap.size := (Array.getElem?_eq_some_iff.1 hrow).1
      have hrow2 := mkHid ((hch.block gL hgA (by rintro (rfl | h); (have := hsz.out; omega); omega)).trans hrow)
      obtain ⟨d, v, hdv⟩ : ∃ d v, os[k] = (d, v) := ⟨_, _, rfl⟩
      have hmem : (d, v) ∈ os := by rw [← hdv]; exact List.getElem_mem hlt
      have hPA := hO.out.part _ hmem
      have hP2 := hPA.near (w' := w2) fun y hy => hch.block y (hPA.span y hy).2 (by
        have h1 := (hPA.span y hy).1
        have h2 := (hPA.span y hy).2
        have := hsz.out
        rintro (rfl | h3) <;> omega)
      obtain ⟨p, q, e0, hfp, hfq⟩ := hP2.r.fv
      have e0' : v = .agg #[.string d.nm, .int .u8 d.kd, .bool p.b1, .slice p.a1 p.n1 p.c1, .bool p.b2, .slice p.a2 p.n2 p.c2, .bool q.b1, .slice q.a1 q.n1 q.c1, .bool q.b2, .slice q.a2 q.n2 q.c2, .int .i64 d.co] := e0
      subst e0'
      have hx := mkHid (row_extract hO.out.allV hlt rest (sub := #[.string d.nm, .int .u8 d.kd, .bool p.b1, .slice p.a1 p.n1 p.c1, .bool p.b2, .slice p.a2 p.n2 p.c2, .bool q.b1, .slice q.a1 q.n1 q.c1, .bool q.b2, .slice q.a2 q.n2 q.c2, .int .i64 d.co]) (by rw [hdv]))
      have hokd : okPD d := hoks.out _ hmem
      obtain ⟨hco0, hco1⟩ := hokd.co
      obtain ⟨n, hn⟩ : ∃ n : Nat, d.co = n := ⟨d.co.toNat, by omega⟩
      have hn1 : n ≤ 1073741824 := by omega
      obtain ⟨w3, hw3⟩ : ∃ w3, w3 = (w2.alloc (.cells #[.string ⟨#[]⟩, .int .u8 0, .bool false, .slice none 0 0, .bool false, .slice none 0 0, .bool false, .slice none 0 0, .bool false, .slice none 0 0, .int .i64 0] 38)).setRow w2.heap.size #[.string d.nm, .int .u8 d.kd, .bool p.b1, .slice p.a1 p.n1 p.c1, .bool p.b2, .slice p.a2 p.n2 p.c2, .bool q.b1, .slice q.a1 q.n1 q.c1, .bool q.b2, .slice q.a2 q.n2 q.c2, .int .i64 d.co] := ⟨_, rfl⟩
      have hE3 : Ext w2 w3 := by rw [hw3]; exact ((Ext.refl w2).al _).row (Nat.le_refl _) _
      have z3 := mkHid (show w3.heap[w2.heap.size]? = some (.cells #[.string d.nm, .int .u8 d.kd, .bool p.b1, .slice p.a1 p.n1 p.c1, .bool p.b2, .slice p.a2 p.n2 p.c2, .bool q.b1, .slice q.a1 q.n1 q.c1, .bool q.b2, .slice q.a2 q.n2 q.c2, .int .i64 d.co] 38 (0, 0)) by rw [hw3]; exact setRow_heap _ _ _ _ _ _ (heap_alloc_new _ _))
      have y3 : w3.cell? ⟨w2.heap.size, 1, none⟩ = some (.int .u8 d.kd) := row16_cells z3.out 1
      have hW := mkHid (fun W => word_c d.kd W)
      have hlt' : (k : Int) < (os.length : Int) := by omega
      have hN2 : ((wordN d.kd : Nat) : Int) ≤ 2 := by have := wordN_le d.kd; omega
      replace hB := mkHid hB
      replace hch := mkHid hch
      replace hEw := mkHid hEw
      replace hw3 := mkHid hw3
      replace hE3 := mkHid hE3
      replace hdv := mkHid hdv
      have hFR := mkHid (fun W (e : Chg wA W (bS w.heap.size wA.heap.size)) => (hPA.near (w' := W) fun y hy => e.block y (hPA.span y hy).2 (by
        have h1 := (hPA.span y hy).1
        have h2 := (hPA.span y hy).2
        have := hsz.out
        rintro (rfl | h3) <;> omega)).r.pq)
      clear hfp hfq
      replace hokd := mkHid hokd
      replace hn := mkHid hn
      clear e0 hP2 hPA hmem hco0 hco1 hrow hlo
      have tok : Tok 0 := .mk _
      go_wp2_with (first
        | ((have _t : Tok 0 := tok); clear _t; clear tok; (have tok : Tok 1 := .mk _); refine wpList_load_sub (by rfl) 38 (.tmp 18) rfl gL (k * 11) ?zz 38 _ #[.string d.nm, .int .u8 d.kd, .bool p.b1, .slice p.a1 p.n1 p.c1, .bool p.b2, .slice p.a2 p.n2 p.c2, .bool q.b1, .slice q.a1 q.n1 q.c1, .bool q.b2, .slice q.a2 q.n2 q.c2, .int .i64 d.co] (0, 0) _ hrow2.out hx.out Tryz.underlying38 rfl (by kernel_rfl) ?_; (case zz => rfl))
        | ((have _t : Tok 1 := tok); clear _t; clear tok; (have tok : Tok 2 := .mk _); refine wpList_store_row rfl 38 (.tmp 6) (.tmp 19) rfl w2.heap.size #[.string d.nm, .int .u8 d.kd, .bool p.b1, .slice p.a1 p.n1 p.c1, .bool p.b2, .slice p.a2 p.n2 p.c2, .bool q.b1, .slice q.a1 q.n1 q.c1, .bool q.b2, .slice q.a2 q.n2 q.c2, .int .i64 d.co] rfl rfl 38 _ (heap_alloc_new _ _) (by kernel_rfl) rfl (by kernel_rfl) ?_; rw [← hw3.out])
        | ((have _t : Tok 2 := tok); clear _t; clear tok; (have tok : Tok 3 := .mk _); go_at_call 52; refine (hW.out _).mono ?_; rintro e w4 ⟨rfl, rfl⟩))
      clear tok
      have hnm := hokd.out.nm
      have hdl := dec_small hn1
      have hwl := wordB_len d.kd
      have hL1 := mkHid (show ¬ 9223372036854775807 < d.nm.size + 1 by omega)
      have hL2 := mkHid (show ¬ 9223372036854775807 < d.nm.size + 1 + (decDigits n).length by omega)
      have hL3 := mkHid (show ¬ 9223372036854775807 < d.nm.size + 1 + (decDigits n).length + 1 by omega)
      have hL4 := mkHid (show ¬ 9223372036854775807 < d.nm.size + 1 + (decDigits n).length + 1 + (wordB d.kd).length by omega)
      have hEw3 := mkHid (hEw.out.trans hE3.out)
      have hI := mkHid (fun W (e : Ext w W) => itoa_c n W (by omega) (hT.out W e))
      obtain ⟨S1, hS1⟩ : ∃ S, S = d.nm ++ ⟨#[32]⟩ := ⟨_, rfl⟩
      obtain ⟨S2, hS2⟩ : ∃ S, S = S1 ++ ⟨(decDigits n).toArray⟩ := ⟨_, rfl⟩
      obtain ⟨S3, hS3⟩ : ∃ S, S = S2 ++ ⟨#[32]⟩ := ⟨_, rfl⟩
      obtain ⟨S4, hS4⟩ : ∃ S, S = S3 ++ ⟨(wordB d.kd).toArray⟩ := ⟨_, rfl⟩
      have hz1 := mkHid (show S1.size = d.nm.size + 1 by rw [hS1, ByteArray.size_append]; rfl)
      have hz2 := mkHid (show S2.size = d.nm.size + 1 + (decDigits n).length by rw [hS2, ByteArray.size_append, hz1.out]; exact congrArg _ List.size_toArray)
      have hz3 := mkHid (show S3.size = d.nm.size + 1 + (decDigits n).length + 1 by rw [hS3, ByteArray.size_append, hz2.out]; rfl)
      replace hS1 := mkHid hS1
      replace hS2 := mkHid hS2
      replace hS3 := mkHid hS3
      replace hS4 := mkHid hS4
      clear hnm hdl hwl
      apply region_ext [.val (.pointer (some ⟨w2.heap.size, 0, none⟩)), .val (.string d.nm), .val (.string S1), .val (.pointer (some ⟨w2.heap.size, 10, none⟩)), .val (.int .i64 n), .val (.string ⟨(decDigits n).toArray⟩), .val (.string S2), .val (.string S3), .val (.string ⟨(wordB d.kd).toArray⟩), .val (.string S4)] (by kernel_rfl) (stable_vals _ (stable_vals _ (stable_vals _ (stable_vals _ (stable_vals _ (stable_vals _ (stable_vals _ (stable_vals _ (stable_vals _ (stable_vals _ trivial))))))))))
      refine ⟨fun W hW _ => by go_simp; first | exact ⟨Ext.refl _, rfl⟩ | exact Ext.refl _, ?_⟩
      refine ⟨fun W hW _ => by have := row16_cells (hW.blk z3.out) 0; go_simp; first | exact ⟨Ext.refl _, rfl⟩ | exact Ext.refl _, ?_⟩
      refine ⟨fun W hW _ => ?s1, ?_⟩
      case s1 =>
        go_simp
        rw [if_neg hL1.out, ← hS1.out]
        exact ⟨Ext.refl _, rfl⟩
      refine ⟨fun W hW _ => by go_simp; first | exact ⟨Ext.refl _, rfl⟩ | exact Ext.refl _, ?_⟩
      refine ⟨fun W hW _ => ?s4, ?_⟩
      case s4 =>
        have hc := row16_cells (hW.blk z3.out) 10
        replace hc : W.cell? ⟨w2.heap.size, 10, none⟩ = some (.int .i64 n) := by rw [hc, ← hn.out]; rfl
        go_simp
        first | exact ⟨Ext.refl _, rfl⟩ | exact Ext.refl _
      refine ⟨fun W hW _ => ?s5, ?_⟩
      case s5 =>
        go_simp
        refine (hI.out W (hEw3.out.trans hW)).mono ?_
        rintro e w' ⟨rfl, h1⟩
        exact ⟨rfl, h1⟩
      refine ⟨fun W hW _ => ?s6, ?_⟩
      case s6 =>
        go_simp
        rw [hz1.out, if_neg hL2.out, ← hS2.out]
        exact ⟨Ext.refl _, rfl⟩
      refine ⟨fun W hW _ => ?s7, ?_⟩
      case s7 =>
        go_simp
        rw [hz2.out, if_neg hL3.out, ← hS3.out]
        exact ⟨Ext.refl _, rfl⟩
      refine ⟨fun W hW _ => by go_simp; first | exact ⟨Ext.refl _, rfl⟩ | exact Ext.refl _, ?_⟩
      refine ⟨fun W hW _ => ?s9, fun W hW _ => ?fin⟩
      case s9 =>
        go_simp
        rw [hz3.out, if_neg hL4.out, ← hS4.out]
        exact ⟨Ext.refl _, rfl⟩
      case fin =>
        have hTl := textB_len ((os.take k).map (·.1)) (by intro y hy; obtain ⟨z, hz, rfl⟩ := List.mem_map.1 hy; exact hoks.out z (List.mem_of_mem_take hz))
        rw [List.length_map, List.length_take] at hTl
        generalize hTT : textB ((os.take k).map (·.1)) = TT at *
        have hTT64 : TT.length ≤ 64 * 262300 := Nat.le_trans hTl (Nat.mul_le_mul_right _ (by omega))
        have hhl := headB_len hokd.out
        have hS4c := head_str hn.out hS1.out hS2.out hS3.out hS4.out
        have hS4z : S4.size = (headB d).length := by
          have := congrArg List.length hS4c
          rw [Lib.strCells_length, byteCells_length] at this
          exact this
        have hcAW : Chg wA W (bS w.heap.size wA.heap.size) := hch.out.trans (Chg.of_ext (hE3.out.trans hW) _)
        have BW := mkHid (bwrite2 wA.heap.size w.heap.size (byteCells TT) S4 W (hB.out.ext (hE3.out.trans hW)) (by rw [byteCells_length, hS4z]; omega) (by have := hcAW.size; omega))
        have hzW := mkHid (hW.blk z3.out)
        have hbw2 := mkHid (show w2.heap.size ≠ w.heap.size by have := hch.out.size; omega)
        replace hcAW := mkHid hcAW
        replace hS4c := mkHid hS4c
        replace hTT := mkHid hTT
        replace hTT64 := mkHid hTT64
        replace hhl := mkHid hhl
        clear hTl hW hS4z
        go_simp
        have tok : Tok 20 := .mk _
        go_wp2_with (first
          | ((have _t : Tok 20 := tok); clear _t; clear tok; (have tok : Tok 21 := .mk _); go_at_call 53; refine BW.out.mono ?_; rintro e w5 ⟨rfl, hB5, hC5, hK5⟩; (have z5 := mkHid (hK5 _ _ _ _ hbw2.out (by decide) hzW.out)); replace hB5 := mkHid hB5; replace hC5 := mkHid (hcAW.out.trans hC5); clear hK5)
          | ((have _t : Tok 21 := tok); clear _t; clear tok; (have tok : Tok 22 := .mk _); refine wpList_load_sub (by rfl) 34 (.tmp 39) rfl w2.heap.size 2 ?zya 38 _ #[.bool p.b1, .slice p.a1 p.n1 p.c1, .bool p.b2, .slice p.a2 p.n2 p.c2] (0, 0) _ z5.out ?zyb Tryz.underlying34 rfl (by kernel_rfl) ?_; (case zya => rfl); (case zyb => rfl))
          | ((have _t : Tok 22 := tok); clear _t; clear tok; (have tok : Tok 23 := .mk _); refine wpList_load_sub (by rfl) 34 (.tmp 42) rfl w2.heap.size 6 ?zyc 38 _ #[.bool q.b1, .slice q.a1 q.n1 q.c1, .bool q.b2, .slice q.a2 q.n2 q.c2] (0, 0) _ z5.out ?zyd Tryz.underlying34 rfl (by kernel_rfl) ?_; (case zyc => rfl); (case zyd => rfl)))
        clear tok
        obtain ⟨w6, hw6⟩ : ∃ w6, w6 = w5.alloc (.cells #[.bool p.b1, .slice p.a1 p.n1 p.c1, .bool p.b2, .slice p.a2 p.n2 p.c2, .bool q.b1, .slice q.a1 q.n1 q.c1, .bool q.b2, .slice q.a2 q.n2 q.c2] 34) := ⟨_, rfl⟩
        rw [← hw6]
        have hx6 : Ext w5 w6 := by rw [hw6]; exact (Ext.refl _).al _
        have z6 := mkHid (show w6.heap[w5.heap.size]? = some (.cells #[.bool p.b1, .slice p.a1 p.n1 p.c1, .bool p.b2, .slice p.a2 p.n2 p.c2, .bool q.b1, .slice q.a1 q.n1 q.c1, .bool q.b2, .slice q.a2 q.n2 q.c2] 34 (0, 0)) by rw [hw6]; exact heap_alloc_new _ _)
        have hC6 := mkHid (hC5.out.trans (Chg.of_ext hx6 _))
        have hb5 := mkHid (show w5.heap.size ≠ w.heap.size by have := hC5.out.size; omega)
        have hB6 := hB5.out.ext hx6
        rw [hS4c.out, cat_cells] at hB6
        obtain ⟨acc, hacc⟩ : ∃ acc, acc = TT ++ headB d := ⟨_, rfl⟩
        rw [← hacc] at hB6
        have hal : acc.length ≤ 64 * 262300 + 73 := by rw [hacc, List.length_append]; have := hTT64.out; have := hhl.out; omega
        have hfl := mkHid (fracsB_len d)
        have hfo := mkHid (fracsB_ok hokd.out)
        have hfa := mkHid (fun (i : Nat) (hi : i < (fracsB d).length) => fracs_at (p := p) (q := q) hi)
        replace hw6 := mkHid hw6
        replace hacc := mkHid hacc
        replace hal := mkHid hal
        have st : InR w6 wA.heap.size w.heap.size acc (fracsB d) (.int .i64 0) w6 := ⟨0, Nat.zero_le _, rfl, by simpa [tailB] using hB6, Chg.refl _ _, Keeps.ext (Ext.refl _)⟩
        replace st := mkHid st
        clear hx6 hB6 BW hB5 hC5 z5 hzW
        go_loopw [48] (fun t48 wr => InR w6 wA.heap.size w.heap.size acc (fracsB d) t48 wr) (fun t48 _ => wordN d.kd - (intOf t48).toNat)
        case atStart => exact st.out
        case round =>
          clear st
          obtain ⟨i, hi, rfl, hBi, hCi, hKi⟩ := hrel
          obtain ⟨w7, rfl⟩ : ∃ w7 : World, w7 = wr := ⟨_, rfl⟩
          rw [hfl.out] at hi
          by_cases hil : i < wordN d.kd
          · obtain ⟨x, f, hxi, hex, hff⟩ := hfa.out i (by rw [hfl.out]; exact hil)
            have hC7 := hC6.out.trans hCi
            have hEw7 : Ext w w7 := hC7.ext w (hE1.out.trans hxA.out) fun k hk hs => by rcases hs with rfl | hs <;> omega
            have hz7 := mkHid (hKi _ _ _ _ hb5.out (by decide) z6.out)
            obtain ⟨w8, hw8⟩ : ∃ w8, w8 = (w7.alloc (.cells #[.bool false, .slice none 0 0, .bool false, .slice none 0 0] 34)).setRow w7.heap.size #[.bool f.b1, .slice f.a1 f.n1 f.c1, .bool f.b2, .slice f.a2 f.n2 f.c2] := ⟨_, rfl⟩
            have hE8 : Ext w7 w8 := by rw [hw8]; exact ((Ext.refl w7).al _).row (Nat.le_refl _) _
            have z8 := mkHid (show w8.heap[w7.heap.size]? = some (.cells #[.bool f.b1, .slice f.a1 f.n1 f.c1, .bool f.b2, .slice f.a2 f.n2 f.c2] 34 (0, 0)) by rw [hw8]; exact setRow_heap _ _ _ _ _ _ (heap_alloc_new _ _))
            have hxm : x ∈ fracsB d := by rw [← hxi]; exact List.getElem_mem _
            have hxn := hfo.out x hxm
            have hDg := mkHid (ratDigits_c (.agg #[.bool f.b1, .slice f.a1 f.n1 f.c1, .bool f.b2, .slice f.a2 f.n2 f.c2]) x w8 (Nat.le_trans hxn (by decide)) ((hff w7 (hFR.out w7 hC7)).ext hE8) (hT.out _ (hEw7.trans hE8)))
            have hrl := ratText_len hxn
            have hLx := mkHid (show ¬ 9223372036854775807 < 1 + (ratText x).length by omega)
            have htl := tailB_len ((fracsB d).take i) fun y hy => hfo.out y (List.mem_of_mem_take hy)
            have htk : tailB ((fracsB d).take (i + 1)) = tailB ((fracsB d).take i) ++ (32 :: ratText x) := by
              rw [List.take_succ_eq_append_getElem (by rw [hfl.out]; exact hil), hxi]
              simp [tailB]
            have htl2 : (tailB ((fracsB d).take i)).length ≤ 2 * 131078 := Nat.le_trans htl (Nat.mul_le_mul_right _ (by rw [List.length_take]; have := wordN_le d.kd; omega))
            have hil' : (i : Int) < ((wordN d.kd : Nat) : Int) := by omega
            have hsA : wA.heap.size ≤ w8.heap.size := Nat.le_trans hC7.size hE8.size
            have BX := mkHid (fun W (e : Ext w8 W) => bwrite2 wA.heap.size w.heap.size (byteCells (acc ++ tailB ((fracsB d).take i))) (⟨#[32]⟩ ++ ⟨(ratText x).toArray⟩) W (hBi.ext (hE8.trans e)) (by rw [byteCells_length, List.length_append, ByteArray.size_append]; show _ + _ + (1 + (ratText x).toArray.size) ≤ _; rw [List.size_toArray]; have := hal.out; omega) (Nat.le_trans hsA e.size))
            replace hex := mkHid hex
            replace hBi := mkHid hBi
            replace hCi := mkHid hCi
            replace hKi := mkHid hKi
            replace hw8 := mkHid hw8
            replace hE8 := mkHid hE8
            replace htk := mkHid htk
            clear hff hxi hxm hxn hrl htl htl2 hC7 hEw7 hsA
            have tok : Tok 30 := .mk _
            go_wp2_with (first
              | ((have _t : Tok 30 := tok); clear _t; clear tok; (have tok : Tok 31 := .mk _); refine wpList_load_sub (by rfl) 34 (.tmp 50) rfl w5.heap.size (i * 4) ?zxa 34 _ #[.bool f.b1, .slice f.a1 f.n1 f.c1, .bool f.b2, .slice f.a2 f.n2 f.c2] (0, 0) _ hz7.out hex.out Tryz.underlying34 rfl (by kernel_rfl) ?_; (case zxa => rfl))
              | ((have _t : Tok 31 := tok); clear _t; clear tok; (have tok : Tok 32 := .mk _); refine wpList_store_row rfl 34 (.tmp 10) (.tmp 51) rfl w7.heap.size #[.bool f.b1, .slice f.a1 f.n1 f.c1, .bool f.b2, .slice f.a2 f.n2 f.c2] rfl rfl 34 _ (heap_alloc_new _ _) (by kernel_rfl) rfl (by kernel_rfl) ?_; rw [← hw8.out])
              | ((have _t : Tok 32 := tok); clear _t; clear tok; (have tok : Tok 33 := .mk _); refine wpList_load_row (by rfl) 34 (.tmp 10) rfl w7.heap.size rfl 34 #[.bool f.b1, .slice f.a1 f.n1 f.c1, .bool f.b2, .slice f.a2 f.n2 f.c2] (0, 0) _ z8.out Tryz.underlying34 rfl (by kernel_rfl) ?_)
              | ((have _t : Tok 33 := tok); clear _t; clear tok; (have tok : Tok 34 := .mk _); go_at_call 55; refine hDg.out.mono ?_; rintro e w9 ⟨rfl, hx9⟩; (have hLx2 := hLx.out); (have BY := mkHid (BX.out w9 hx9)); replace hx9 := mkHid hx9)
              | ((have _t : Tok 34 := tok); clear _t; clear tok; (have tok : Tok 35 := .mk _); go_at_call 53; refine BY.out.mono ?_; rintro e w10 ⟨rfl, hB10, hC10, hK10⟩; replace hB10 := mkHid hB10; replace hC10 := mkHid hC10; replace hK10 := mkHid hK10))
            refine ⟨⟨i + 1, by rw [hfl.out]; omega, by go_num, ?_, hCi.out.trans ((Chg.of_ext (hE8.out.trans hx9.out) _).trans hC10.out), hKi.out.trans ((Keeps.ext (hE8.out.trans hx9.out)).trans hK10.out)⟩, by simp [intOf]; omega⟩
            have hb := hB10.out
            rw [sp_cells, cat_cells, List.append_assoc, ← htk.out] at hb
            exact hb
          · have hin : i = (fracsB d).length := by rw [hfl.out]; omega
            subst hin
            rw [List.take_length] at hBi
            have hC7 := hC6.out.trans hCi
            have htl := tailB_len (fracsB d) hfo.out
            rw [hfl.out] at htl
            have htl2 : (tailB (fracsB d)).length ≤ 2 * 131078 := Nat.le_trans htl (Nat.mul_le_mul_right _ (wordN_le d.kd))
            have BN := mkHid (bwrite2 wA.heap.size w.heap.size (byteCells (acc ++ tailB (fracsB d))) ⟨#[10]⟩ w7 hBi (by rw [byteCells_length, List.length_append]; show _ + _ + 1 ≤ _; have := hal.out; omega) hC7.size)
            have hii : ((fracsB d).length : Int) = ((wordN d.kd : Nat) : Int) := by rw [hfl.out]
            replace hii := mkHid hii
            replace hC7 := mkHid hC7
            rw [hfl.out]
            clear hBi hCi hKi hi hil htl htl2
            have tok : Tok 40 := .mk _
            go_wp2_with ((have _t : Tok 40 := tok); clear _t; clear tok; (have tok : Tok 41 := .mk _); go_at_call 53; refine BN.out.mono ?_; rintro e w8 ⟨rfl, hB8, hC8, hK8⟩; replace hB8 := mkHid hB8; replace hC8 := mkHid (hC7.out.trans hC8); clear hK8)
            refine ⟨⟨k + 1, by omega, by go_num, ?_, hC8.out⟩, by simp [intOf]; omega⟩
            have hb := hB8.out
            rw [show Lib.strCells ⟨#[10]⟩ = byteCells [10] by rw [Lib.strCells_eq], cat_cells, hacc.out] at hb
            have he : textB ((os.take (k + 1)).map (·.1)) = TT ++ headB d ++ tailB (fracsB d) ++ [10] := by
              rw [List.take_succ_eq_append_getElem hlt, hdv.out, List.map_append]
              have : textB ((os.take k).map (·.1) ++ [d]) = textB ((os.take k).map (·.1)) ++ lineB d := by simp [textB]
              show textB ((os.take k).map (·.1) ++ [d]) = _
              rw [this, hTT.out]
              simp [lineB]
            rw [he]
            exact hb
    · have hkn : k = os.length := by omega
      subst hkn
      rw [List.take_length, hmap.out] at hB
      have BL := mkHid (Tryz.Builder_Len w.heap.size w.heap.size _ w2 hB.is)
      have BS := mkHid (Tryz.Builder_String_any w.heap.size w.heap.size (textB (es.map (·.1))) w2 hB.is hEw.size)
      generalize hTT : textB (es.map (·.1)) = TT at *
      have hbl : (byteCells TT).length = TT.length := byteCells_length _
      rw [hbl] at BL
      replace hEw := mkHid hEw
      replace hTT := mkHid hTT
      clear hbl hB hch hk
      by_cases hbig : TT.length ≤ 65536
      · have hb1 : ¬ ((65536 : Int) < (TT.length : Int)) := by omega
        have hqq := mkHid (fun w' (e : Ext w w') => (show TextQ w es (.returned (.tuple #[.string ⟨TT.toArray⟩, .int .i64 0])) w' from ⟨by rw [hTT.out, if_pos hbig], e⟩))
        clear hbig
        have tok : Tok 50 := .mk _
        go_wp2_with (first
          | ((have _t : Tok 50 := tok); clear _t; clear tok; (have tok : Tok 51 := .mk _); go_at_call 56; refine BL.out.mono ?_; rintro e w8 ⟨rfl, rfl⟩)
          | ((have _t : Tok 51 := tok); clear _t; clear tok; (have tok : Tok 52 := .mk _); go_at_call 57; refine BS.out.mono ?_; rintro e w9 ⟨rfl, hx9⟩; replace hx9 := mkHid hx9))
        go_ret2
        exact hqq.out _ (Below.trans hEw.out hx9.out)
      · have hb1 : ((65536 : Int) < (TT.length : Int)) := by omega
        have hqq := mkHid (fun w' (e : Ext w w') => (show TextQ w es (.returned (.tuple #[.string ⟨#[]⟩, .int .i64 4])) w' from ⟨by rw [hTT.out, if_neg hbig], e⟩))
        clear hbig
        have tok : Tok 50 := .mk _
        go_wp2_with ((have _t : Tok 50 := tok); clear _t; clear tok; (have tok : Tok 51 := .mk _); go_at_call 56; refine BL.out.mono ?_; rintro e w8 ⟨rfl, rfl⟩)
        go_ret2
        exact hqq.out _ hEw.out
end Go.Proofs.YtkkfgphcmnhabaaGreatDoor
namespace Go.Proofs.YtkkfgphcmnhabaaGreatDoor
set_option maxRecDepth 100000
open Go Go.RowKit Go.Proofs
def dA : PD := ⟨⟨#[97]⟩, 2, Rat.divInt 1 2, 0, 5⟩
def dC : PD := ⟨⟨#[99]⟩, 2, Rat.divInt 1 2, 0, 4⟩
def rL (nm : ByteArray) (co : Int) : RD := ⟨nm, 2, co, some (Rat.divInt 1 2), some 0⟩
theorem goes_a : goesD (rL ⟨#[97]⟩ 5) = some dA := by kernel_rfl
theorem goes_c : goesD (rL ⟨#[99]⟩ 4) = some dC := by kernel_rfl
theorem name_A : nameB ((⟨#[65]⟩ : ByteArray).data.toList) = false := by kernel_rfl
theorem near_ac : nearG 0 none [dA, dC] = some dC := by kernel_rfl
theorem lens_ac (v1 v2 : Value) : (([(dA, v1), (dC, v2)] : List (PD × Value)).map (·.1)).filter lensB ≠ [] := by
  have : (([(dA, v1), (dC, v2)] : List (PD × Value)).map (·.1)).filter lensB = [dA, dC] := by kernel_rfl
  rw [this]
  simp
theorem text_ac : textB [dA, dC] = [97, 32, 53, 32, 108, 101, 110, 115, 32, 49, 47, 50, 10, 99, 32, 52, 32, 108, 101, 110, 115, 32, 49, 47, 50, 10] := by kernel_rfl
end Go.Proofs.YtkkfgphcmnhabaaGreatDoor
namespace Go.Proofs.YtkkfgphcmnhabaaGreatDoor
set_option maxRecDepth 100000
open Go Go.RowKit Go.Proofs
/-- No limb. -/
def flat32 : Value → Bool
  | .int .u32 _ => false
  | _ => true
theorem Row.flat32 {w : World} {a : Option Addr} {l : List Nat} {g T : Nat} {fr : Nat × Nat} {old : Array Value} (h : Row w a (limV l)) (hg : w.heap[g]? = some (.cells old T fr)) (ho : old.all flat32 = true) (cs : Array Value) : Row (w.setRow g cs) a (limV l) := by
  obtain ⟨b, off, h1, h2⟩ := h
  refine ⟨b, off, h1, fun j hj => ?_⟩
  have hc := h2 j hj
  have hne : b ≠ g := by
    rintro rfl
    rw [limV_getD _ _ (by rw [limV_length] at hj; exact hj)] at hc
    have hc2 : old[off + j]? = some (.int .u32 ((l.getD j 0 : Nat) : Int)) := by
      simp only [World.cell?, hg] at hc
      simpa using hc
    obtain ⟨hlt, he⟩ := Array.getElem?_eq_some_iff.1 hc2
    have := Array.all_eq_true.1 ho _ hlt
    rw [he] at this
    cases this
  have : ((w.setRow g cs).heap[b]?) = w.heap[b]? := setRow_other _ _ _ _ hne
  simp only [World.cell?, this] at hc ⊢
  exact hc
theorem AnyF.flat32 {w : World} {v : Value} {o : Option Rat} {g T : Nat} {fr : Nat × Nat} {old : Array Value} (h : AnyF w v o) (hg : w.heap[g]? = some (.cells old T fr)) (ho : old.all flat32 = true) (cs : Array Value) : AnyF (w.setRow g cs) v o := by
  obtain ⟨b1, l1, b2, l2, ⟨a1, c1, a2, c2, h1, h2, h3, ⟨x1, y1, e1, f1, g1, r1⟩, ⟨x2, y2, e2, f2, g2, r2⟩⟩, h6⟩ := h
  exact ⟨b1, l1, b2, l2, ⟨a1, c1, a2, c2, h1, h2, h3, ⟨x1, y1, e1, f1, g1, r1.flat32 hg ho cs⟩, ⟨x2, y2, e2, f2, g2, r2.flat32 hg ho cs⟩⟩, h6⟩
theorem IntR.flat32 {w : World} {v : Value} {x : Int} {g T : Nat} {fr : Nat × Nat} {old : Array Value} (h : IntR w v x) (hg : w.heap[g]? = some (.cells old T fr)) (ho : old.all flat32 = true) (cs : Array Value) : IntR (w.setRow g cs) v x := by
  obtain ⟨s, h1, a, c, h2, h3, r⟩ := h
  exact ⟨s, h1, a, c, h2, h3, r.flat32 hg ho cs⟩
theorem FracR.flat32 {w : World} {v : Value} {q : Rat} {g T : Nat} {fr : Nat × Nat} {old : Array Value} (h : FracR w v q) (hg : w.heap[g]? = some (.cells old T fr)) (ho : old.all flat32 = true) (cs : Array Value) : FracR (w.setRow g cs) v q := by
  obtain ⟨b1, a1, n1, c1, b2, a2, n2, c2, h1, h2, h3⟩ := h
  exact ⟨b1, a1, n1, c1, b2, a2, n2, c2, h1, h2.flat32 hg ho cs, h3.flat32 hg ho cs⟩
theorem nf_none : nf 0 ≤ 2048 := by unfold nf; rw [show (0 : Rat).num = 0 from rfl, show (((0 : Rat).den : Nat) : Int) = 1 from rfl]; unfold nl; rw [show (1 : Int).natAbs = 1 from rfl, show (0 : Int).natAbs = 0 from rfl, lim_zero, lim_one (by omega) (by omega)]; decide
/-- A fraction that can be read, in rows from a block on. -/
def FracN (lo : Nat) (w : World) (v : Value) (q : Rat) : Prop := FracR w v q ∧ NewF lo v
/-- A part that can be read, in rows from a block on. -/
def PartN (lo : Nat) (w : World) (v : Value) (d : PD) : Prop := ∃ b1 a1 n1 c1 b2 a2 n2 c2 b3 a3 n3 c3 b4 a4 n4 c4, v = .agg #[.string d.nm, .int .u8 d.kd, .bool b1, .slice a1 n1 c1, .bool b2, .slice a2 n2 c2, .bool b3, .slice a3 n3 c3, .bool b4, .slice a4 n4 c4, .int .i64 d.co] ∧ FracN lo w (.agg #[.bool b1, .slice a1 n1 c1, .bool b2, .slice a2 n2 c2]) d.p ∧ FracN lo w (.agg #[.bool b3, .slice a3 n3 c3, .bool b4, .slice a4 n4 c4]) d.q
def ElemN (lo : Nat) (w : World) (v : Value) (d : PD) : Prop := ∃ b1 a1 n1 c1 b2 a2 n2 c2 b3 a3 n3 c3 b4 a4 n4 c4, v = .agg #[.int .u8 d.kd, .bool b1, .slice a1 n1 c1, .bool b2, .slice a2 n2 c2, .bool b3, .slice a3 n3 c3, .bool b4, .slice a4 n4 c4] ∧ FracN lo w (.agg #[.bool b1, .slice a1 n1 c1, .bool b2, .slice a2 n2 c2]) d.p ∧ FracN lo w (.agg #[.bool b3, .slice a3 n3 c3, .bool b4, .slice a4 n4 c4]) d.q
theorem FracN.ext {lo : Nat} {w w' : World} {v : Value} {q : Rat} (h : FracN lo w v q) (e : Ext w w') : FracN lo w' v q := ⟨h.1.ext e, h.2⟩
theorem PartN.ext {lo : Nat} {w w' : World} {v : Value} {d : PD} (h : PartN lo w v d) (e : Ext w w') : PartN lo w' v d := by
  obtain ⟨b1, a1, n1, c1, b2, a2, n2, c2, b3, a3, n3, c3, b4, a4, n4, c4, h0, h1, h2⟩ := h
  exact ⟨_, _, _, _, _, _, _, _, _, _, _, _, _, _, _, _, h0, h1.ext e, h2.ext e⟩
theorem ElemN.ext {lo : Nat} {w w' : World} {v : Value} {d : PD} (h : ElemN lo w v d) (e : Ext w w') : ElemN lo w' v d := by
  obtain ⟨b1, a1, n1, c1, b2, a2, n2, c2, b3, a3, n3, c3, b4, a4, n4, c4, h0, h1, h2⟩ := h
  exact ⟨_, _, _, _, _, _, _, _, _, _, _, _, _, _, _, _, h0, h1.ext e, h2.ext e⟩
theorem FracN.mono {lo lo' : Nat} {w : World} {v : Value} {q : Rat} (h : FracN lo w v q) (hl : lo' ≤ lo) : FracN lo' w v q :=
  ⟨h.1, fun b1 s1 b2 s2 e => ⟨fun g hg => Nat.le_trans hl ((h.2 b1 s1 b2 s2 e).1 g hg), fun g hg => Nat.le_trans hl ((h.2 b1 s1 b2 s2 e).2 g hg)⟩⟩
end Go.Proofs.YtkkfgphcmnhabaaGreatDoor
namespace Go.Proofs.YtkkfgphcmnhabaaGreatDoor
set_option maxRecDepth 100000
open Go Go.RowKit Go.Proofs
set_option maxHeartbeats 1600000 in
theorem small25_f (n d : Int) (w : World) (h0 : -9223372036854775808 ≤ n) (h1 : n < 9223372036854775808) (h2 : -9223372036854775808 ≤ d) (h3 : d < 9223372036854775808) (hd : d ≠ 0) :
    Calls Tryz.prog 23 #[.int .i64 n, .int .i64 d] w fun e w' => ∃ v, e = .returned v ∧ Ext w w' ∧ AnyF w' v (some (Rat.divInt n d)) := by
  have o1 := mkHid (fun w => of_f n d w h0 h1 h2 h3 hd)
  clear h0 h1 h2 h3 hd
  go_enter Tryz.func23, Tryz.ntmps23
  go_wp2_with fail
  refine (o1.out _).mono ?_
  rintro e w1 ⟨v, rfl, hE1, hv⟩
  obtain ⟨x1, x2, x3, x4, y1, y2, y3, y4, rfl⟩ := hv.shape
  have hB := (hE1.blk (heap_alloc_new _ _))
  have hB2 := (heap_alloc_old w1 (.cells #[.bool x1, .slice x2 x3 x4, .bool y1, .slice y2 y3 y4] 34) (Array.getElem?_eq_some_iff.1 hB).1).trans hB
  have hv2 := hv.ext ((Ext.refl w1).al (.cells #[.bool x1, .slice x2 x3 x4, .bool y1, .slice y2 y3 y4] 34))
  have FR := hv2.flat hB2 (by simp [flatV]) #[.bool x1, .slice x2 x3 x4, .bool y1, .slice y2 y3 y4]
  have FE := ((((Ext.refl w).al _).trans hE1).al (.cells #[.bool x1, .slice x2 x3 x4, .bool y1, .slice y2 y3 y4] 34)).row (Nat.le_refl _) #[.bool x1, .slice x2 x3 x4, .bool y1, .slice y2 y3 y4]
  replace FR := mkHid FR
  replace FE := mkHid FE
  replace hB2 := mkHid hB2
  clear hv hE1 hv2 hB
  go_wp2_with (refine wpList_store_row rfl 34 (.tmp 4) (.tmp 16) rfl w.heap.size #[.bool x1, .slice x2 x3 x4, .bool y1, .slice y2 y3 y4] rfl rfl 34 _ hB2.out (by kernel_rfl) rfl (by kernel_rfl) ?_)
  exact bodyPost_ret (results_cell_row rfl _ _ w.heap.size 34 #[.bool x1, .slice x2 x3 x4, .bool y1, .slice y2 y3 y4] (0, 0) _ rfl (setRow_heap _ _ _ _ _ _ hB2.out) Tryz.underlying34 rfl (by kernel_rfl)) rfl ⟨_, rfl, FE.out, FR.out⟩
def ElemA (p : FV) (W : World) (v : Value) : Prop := ∃ q : FV, v = .agg #[.int .u8 2, .bool p.b1, .slice p.a1 p.n1 p.c1, .bool p.b2, .slice p.a2 p.n2 p.c2, .bool q.b1, .slice q.a1 q.n1 q.c1, .bool q.b2, .slice q.a2 q.n2 q.c2] ∧ AnyF W (.agg #[.bool q.b1, .slice q.a1 q.n1 q.c1, .bool q.b2, .slice q.a2 q.n2 q.c2]) (some 0)
def PartA (nm : ByteArray) (co : Int) (p : FV) (W : World) (v : Value) : Prop := ∃ q : FV, v = .agg #[.string nm, .int .u8 2, .bool p.b1, .slice p.a1 p.n1 p.c1, .bool p.b2, .slice p.a2 p.n2 p.c2, .bool q.b1, .slice q.a1 q.n1 q.c1, .bool q.b2, .slice q.a2 q.n2 q.c2, .int .i64 co] ∧ AnyF W (.agg #[.bool q.b1, .slice q.a1 q.n1 q.c1, .bool q.b2, .slice q.a2 q.n2 q.c2]) (some 0)
theorem st_elemA {ss : List FSpec} (p : FV) (h : StableAll Ext ss) : StableAll Ext (.pred (ElemA p) :: ss) := ⟨fun _ _ _ e h => by obtain ⟨q, h1, h2⟩ := h; exact ⟨q, h1, h2.ext e⟩, h⟩
theorem st_partA {ss : List FSpec} (nm : ByteArray) (co : Int) (p : FV) (h : StableAll Ext ss) : StableAll Ext (.pred (PartA nm co p) :: ss) := ⟨fun _ _ _ e h => by obtain ⟨q, h1, h2⟩ := h; exact ⟨q, h1, h2.ext e⟩, h⟩
theorem zero_div : Rat.divInt 0 1 = 0 := by kernel_rfl
/-- A lens as it is made. -/
def LensQ (nm : ByteArray) (co : Int) (x : Rat) (w : World) (e : Ending) (w' : World) : Prop :=
  ∃ p q : FV, e = .returned (.agg #[.string nm, .int .u8 2, .bool p.b1, .slice p.a1 p.n1 p.c1, .bool p.b2, .slice p.a2 p.n2 p.c2, .bool q.b1, .slice q.a1 q.n1 q.c1, .bool q.b2, .slice q.a2 q.n2 q.c2, .int .i64 co]) ∧ AnyF w' (.agg #[.bool p.b1, .slice p.a1 p.n1 p.c1, .bool p.b2, .slice p.a2 p.n2 p.c2]) (some x) ∧ AnyF w' (.agg #[.bool q.b1, .slice q.a1 q.n1 q.c1, .bool q.b2, .slice q.a2 q.n2 q.c2]) (some 0) ∧ Ext w w'
set_option maxHeartbeats 3200000 in
theorem lens_c (nm : ByteArray) (v : Value) (x : Rat) (co : Int) (w : World) (h : AnyF w v (some x)) :
    Calls Tryz.prog 22 #[.string nm, v, .int .i64 co] w (LensQ nm co x w) := by
  have KS := mkHid (fun W => small25_f 0 1 W (by decide) (by decide) (by decide) (by decide) (by decide))
  rw [zero_div] at KS
  obtain ⟨p, rfl⟩ := h.fv
  obtain ⟨wb, hwb⟩ : ∃ wb, wb = (w.alloc (.cells #[.bool p.b1, .slice p.a1 p.n1 p.c1, .bool p.b2, .slice p.a2 p.n2 p.c2] 34)).alloc (.cells #[.string ⟨#[]⟩, .int .u8 0, .bool false, .slice none 0 0, .bool false, .slice none 0 0, .bool false, .slice none 0 0, .bool false, .slice none 0 0, .int .i64 0] 38) := ⟨_, rfl⟩
  have hE : Ext w wb := by rw [hwb]; exact ((Ext.refl w).al _).al _
  have z0 : wb.heap[w.heap.size]? = some (.cells #[.bool p.b1, .slice p.a1 p.n1 p.c1, .bool p.b2, .slice p.a2 p.n2 p.c2] 34 (0, 0)) := by rw [hwb]; exact (heap_alloc_old _ _ (by simp)).trans (heap_alloc_new _ _)
  have zB : wb.heap[w.heap.size + 1]? = some (.cells #[.string ⟨#[]⟩, .int .u8 0, .bool false, .slice none 0 0, .bool false, .slice none 0 0, .bool false, .slice none 0 0, .bool false, .slice none 0 0, .int .i64 0] 38 (0, 0)) := by rw [hwb]; exact heap_at _ _ _ (by simp)
  have hA := mkHid (h.ext hE)
  replace z0 := mkHid z0
  replace zB := mkHid zB
  replace hE := mkHid hE
  replace hwb := mkHid hwb
  clear h
  go_enter Tryz.func22, Tryz.ntmps22
  go_wp2_with fail
  rw [← hwb.out]
  clear hwb
  apply region_ext [.val (.string nm), .val (.agg #[.bool p.b1, .slice p.a1 p.n1 p.c1, .bool p.b2, .slice p.a2 p.n2 p.c2]), .pred (fun W v => AnyF W v (some 0)), .pred (ElemA p), .val (.int .i64 co), .pred (PartA nm co p)] (by kernel_rfl) (stable_vals _ (stable_vals _ (st_any _ (st_elemA _ (stable_vals _ (st_partA _ _ _ trivial))))))
  refine ⟨fun W hW _ => by go_simp; first | exact ⟨Ext.refl _, rfl⟩ | exact Ext.refl _, ?_⟩
  refine ⟨?ld, ?_⟩
  case ld =>
    intro W hW hF
    have hr := hW.blk z0.out
    with_reducible refine fr_load ?zhw 34 (.tmp 4) ?zho w.heap.size ?zhx 34 #[.bool p.b1, .slice p.a1 p.n1 p.c1, .bool p.b2, .slice p.a2 p.n2 p.c2] (0, 0) _ hr Tryz.underlying34 ?zhd ?zhi ?zh
    case zhw => kernel_rfl
    case zho => rfl
    case zhx => kernel_rfl
    case zhd => rfl
    case zhi => kernel_rfl
    case zh => exact ⟨Ext.refl _, rfl⟩
  refine ⟨fun W hW hF => ?cs, fun v2 => ?_⟩
  case cs =>
    clear hF
    go_simp
    refine (KS.out W).mono ?_
    rintro e w' ⟨v, rfl, h1, h2⟩
    exact ⟨v, rfl, h1, h2⟩
  refine ⟨fun W hW hF => ?bE, fun v3 => ?_⟩
  case bE =>
    have dq : AnyF W v2 (some 0) := hF.1 (by kernel_rfl)
    clear hF
    obtain ⟨q, rfl⟩ := dq.fv
    replace dq := mkHid dq
    go_simp
    exact ⟨Ext.refl _, q, rfl, dq.out⟩
  refine ⟨fun W hW _ => by go_simp; first | exact ⟨Ext.refl _, rfl⟩ | exact Ext.refl _, ?_⟩
  refine ⟨fun W hW hF => ?bP, fun v5 => fun W hW hF => ?fin⟩
  case bP =>
    have dE : ElemA p W v3 := hF.1 (by kernel_rfl)
    clear hF
    obtain ⟨q, rfl, dq⟩ := dE
    replace dq := mkHid dq
    go_simp
    exact ⟨Ext.refl _, q, rfl, dq.out⟩
  case fin =>
    have dP : PartA nm co p W v5 := hF.1 rfl
    obtain ⟨q, rfl, dq⟩ := dP
    have hBW := hW.blk zB.out
    have FQ := mkHid (show LensQ nm co x w (.returned (.agg #[.string nm, .int .u8 2, .bool p.b1, .slice p.a1 p.n1 p.c1, .bool p.b2, .slice p.a2 p.n2 p.c2, .bool q.b1, .slice q.a1 q.n1 q.c1, .bool q.b2, .slice q.a2 q.n2 q.c2, .int .i64 co])) (W.setRow (w.heap.size + 1) #[.string nm, .int .u8 2, .bool p.b1, .slice p.a1 p.n1 p.c1, .bool p.b2, .slice p.a2 p.n2 p.c2, .bool q.b1, .slice q.a1 q.n1 q.c1, .bool q.b2, .slice q.a2 q.n2 q.c2, .int .i64 co]) from ⟨p, q, rfl, (hA.out.ext hW).flat32 hBW (by simp [flat32]) _, dq.flat32 hBW (by simp [flat32]) _, (hE.out.trans hW).row (Nat.le_succ _) _⟩)
    clear hF dq hW
    go_simp
    go_wp2_with (refine wpList_store_row rfl 38 (.tmp 6) (.tmp 12) rfl (w.heap.size + 1) #[.string nm, .int .u8 2, .bool p.b1, .slice p.a1 p.n1 p.c1, .bool p.b2, .slice p.a2 p.n2 p.c2, .bool q.b1, .slice q.a1 q.n1 q.c1, .bool q.b2, .slice q.a2 q.n2 q.c2, .int .i64 co] rfl rfl 38 _ hBW (by kernel_rfl) rfl (by kernel_rfl) ?_)
    exact bodyPost_ret (results_cell_row rfl _ _ (w.heap.size + 1) 38 #[.string nm, .int .u8 2, .bool p.b1, .slice p.a1 p.n1 p.c1, .bool p.b2, .slice p.a2 p.n2 p.c2, .bool q.b1, .slice q.a1 q.n1 q.c1, .bool q.b2, .slice q.a2 q.n2 q.c2, .int .i64 co] (0, 0) _ rfl (setRow_heap _ _ _ _ _ _ hBW) Tryz.underlying38 rfl (by kernel_rfl)) rfl FQ.out
end Go.Proofs.YtkkfgphcmnhabaaGreatDoor
