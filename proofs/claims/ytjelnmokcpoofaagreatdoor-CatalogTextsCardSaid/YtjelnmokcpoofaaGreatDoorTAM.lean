/-
  catalog.Parse: whole lines and what stands behind them, by read_all. What comes in: a list of parts as data. Loads out of the middle of a row whose cells are known one by one: no program. The catalogue's Near. The catalogue's Text. SamePart of two parts that are the same. law01: SameParts of two lists of the same parts. law25: CatalogBack, walked. catalog.Parse at any text. The reference's Put, where it lets a part in. The reference's Near: a power that is none; the word of a kind. The reference's kind (of a word).
-/
import Derived.Test.YtjelnmokcpoofaaGreatDoorTAL
import Derived.Test.YtjelnmokcpoofaaGreatDoorTAF
import Derived.Test.YtjelnmokcpoofaaGreatDoorTAD
import Derived.Test.YtjelnmokcpoofaaGreatDoorTAE
import Derived.Test.YtjelnmokcpoofaaGreatDoorTAA
import Derived.Test.YtjelnmokcpoofaaGreatDoorTAI
import Derived.Test.YtjelnmokcpoofaaGreatDoorTAG
import Derived.ProofKit
import Derived.OpenShut
import Derived.Lib.SmallJoins
import Derived.Carry
import Derived.Deep.Slices
import Derived.SizedLaws
import Derived.Deep.MidRow
import Derived.Test.YtjelnmokcpoofaaGreatDoorTAJ
import Derived.Test.YtjelnmokcpoofaaGreatDoorTAC
import Derived.Laws.EntriesVeiled
import Derived.Test.YtjelnmokcpoofaaGreatDoorTAK
import Derived.LoopN
namespace Go.Proofs.YtjelnmokcpoofaaGreatDoor
set_option maxRecDepth 100000
open Go Go.RowKit Go.Proofs Go.WideElems Go.ChangeMaps Go.MapKept
theorem read_goodS {t : List UInt8} {d : PD} (W : World) (h : readL t = .ok d) (hl : t.length ≤ 65536) (hm : Max0 W) (ht : Tab10 W) (he : Errs W) :
  Calls Tryz.prog 16 #[.string ⟨t.toArray⟩] W (PartQ W d) := by
 refine (read_all ⟨t.toArray⟩ W (by rw [str_len]; exact hl) hm ht he).mono ?_
 rintro e w' (⟨d', h1, h2⟩ | ⟨c, h1, -⟩)
 ·rw [h] at h1
  cases h1
  exact h2
 ·rw [h] at h1; cases h1
theorem read_badS {t : List UInt8} {c : Int} (W : World) (h : readL t = .error c) (hl : t.length ≤ 65536) (hm : Max0 W) (ht : Tab10 W) (he : Errs W) :
  Calls Tryz.prog 16 #[.string ⟨t.toArray⟩] W (LineE W c) := by
 refine (read_all ⟨t.toArray⟩ W (by rw [str_len]; exact hl) hm ht he).mono ?_
 rintro e w' (⟨d', h1, -⟩ | ⟨c', h1, h2⟩)
 ·rw [h] at h1; cases h1
 ·rw [h] at h1
  cases h1
  exact h2
theorem read_lineS (d : PD) (W : World) (hd : okPD d) (hl : (lineT d).length ≤ 65536) (hm : Max0 W) (ht : Tab10 W) (he : Errs W) :
  Calls Tryz.prog 16 #[.string ⟨(lineT d).toArray⟩] W (PartQ W d) := read_goodS W (readL_line hd) hl hm ht he
set_option maxHeartbeats 6400000 in
theorem catParse_genS (s : ByteArray) (w : World) (ds : List PD) (rest : List UInt8) (code : Int) (hs : s.size ≤ 65536) (he : s.data.toList = textB ds ++ rest) (hok : ∀ d ∈ ds, okPD d) (hr : Ris ds) (hl : ds.length ≤ 64) (hm : Max0 w) (ht : Tab10 w) (hErr : Errs w) (hend : EndQ w ds rest code) :
  Calls Tryz.prog 6 #[.string s] w (ParseQ w ds code) := by
 have KN := mK (new_c w)
 have hs' : ¬ (65536 : Int) < (s.size : Int) := by omega
 have hlen : (textB ds ++ rest).length ≤ 65536 := by rw [← he, list_size]; exact hs
 replace he := mK he
 replace hlen := mK hlen
 replace hok := mK hok
 replace hr := mK hr
 replace hend := mK hend
 have hM := mK (fun W (e : Ext w W) => hm.ext e)
 have hT := mK (fun W (e : Ext w W) => tab_ext ht e)
 have hX := mK (fun W (e : Ext w W) => hErr.ext e)
 clear hm ht hs hErr
 go_enter Tryz.func6, Tryz.ntmps6
 have tok : Tok 0 := .mk _
 go_wp2_with (replace tok : Tok 1 := nxT 0 tok; go_at_call 14; refine KN.out.mono ?_; rintro e w1 ⟨g, M, rfl, hcat, hE1, hg, hMl⟩; replace hcat := mK hcat; replace hE1 := mK hE1)
 clear KN tok
 have st : ParI w g M ds rest (.string s) (.pointer (some ⟨g, 0, none⟩)) (.int .i64 0) (.string ⟨#[]⟩) w1 := ⟨0, [], s, ⟨#[]⟩, Nat.zero_le _, rfl, rfl, he.out, rfl, rfl, rfl, hcat.out, rfl, hE1.out⟩
 replace st := mK st
 replace hg := mK hg
 replace hMl := mK hMl
 clear hcat hE1 hs' he
 go_loopw [0, 2, 3, 5] (fun t0 t2 t3 t5 wr => ParI w g M ds rest t0 t2 t3 t5 wr) (fun t0 _ _ _ _ => szS t0)
 case atStart => exact st.out
 case round =>
  clear st
  obtain ⟨k, es, C, L, hk, rfl, rfl, hC, rfl, rfl, hL, hcat, hmap, hEw⟩ := hrel
  obtain ⟨w2, rfl⟩ : ∃ w2 : World, w2 = wr := ⟨_, rfl⟩
  obtain ⟨cl, cs⟩ := str_facts hC
  by_cases hkd : k < ds.length
  ·obtain ⟨d, hd⟩ : ∃ d, d = ds[k] := ⟨_, rfl⟩
   have hdrop : ds.drop k = d :: ds.drop (k + 1) := by rw [hd]; exact List.drop_eq_getElem_cons hkd
   have htake : ds.take (k + 1) = ds.take k ++ [d] := by rw [hd]; exact List.take_succ_eq_append_getElem hkd
   have hdok : okPD d := hok.out d (by rw [hd]; exact List.getElem_mem _)
   have hbef : ∀ x ∈ es, bytesBefore (nmL x.1) (nmL d) = true := fun x hx => by
    have h1 : x.1 ∈ ds.take k := by rw [← hmap]; exact List.mem_map_of_mem hx
    have h2 : Ris (ds.take k ++ d :: ds.drop (k + 1)) := by rw [← hdrop, List.take_append_drop]; exact hr.out
    exact (List.pairwise_append.1 h2).2.2 x.1 h1 d (by simp)
   have hlast : bytesBefore (lastN (ds.take k)) (nmL d) = true := by
    refine last_before (r := ds.drop (k + 1)) ?_ hdok.2.2.1
    rw [← hdrop, List.take_append_drop]
    exact hr.out
   have hel : es.length = k := by
    have := congrArg List.length hmap
    rw [List.length_map, List.length_take] at this
    omega
   rw [hdrop, textB_cons] at hC
   have hC' : C.data.toList = lineT d ++ 10 :: (textB (ds.drop (k + 1)) ++ rest) := by rw [hC]; simp
   have hcut : cutL 10 C.data.toList = some (lineT d, textB (ds.drop (k + 1)) ++ rest) := by rw [hC']; exact cutL_hit (line_free hdok.2.2.1)
   have hsz : C.size ≤ 65536 := by
    have h2 := hlen.out
    rw [List.length_append] at h2
    have h3 : (textB (ds.drop k)).length ≤ (textB ds).length := by
     conv => rhs; rw [← List.take_append_drop k ds, textB_app, List.length_append]
     omega
    rw [hdrop, textB_cons] at h3
    rw [← list_size, hC, List.length_append]
    omega
   have hll : (lineT d).length ≤ 65536 := by
    have h2 := congrArg List.length hC'
    rw [list_size, List.length_append, List.length_cons] at h2
    omega
   have hCne : C.toList ≠ [] := by rw [ByteArray.toList_eq, hC']; simp
   obtain ⟨f1, f2, f3⟩ := empty_facts (l := C.toList) (b := false) (decide_eq_false hCne)
   have KC := mK (cut_hit 10 C w2 (by omega) (hM.out _ hEw) hcut)
   have KR := mK (fun W (e : Ext w W) => read_lineS d W hdok hll (hM.out _ e) (hT.out _ e) (hX.out _ e))
   obtain ⟨n1, n2, n3, n4⟩ := name_cmp (a := L) (b := d.nm) (by rw [hL]; exact hlast)
   obtain ⟨R, hR⟩ : ∃ R : ByteArray, R = ⟨(textB (ds.drop (k + 1)) ++ rest).toArray⟩ := ⟨_, rfl⟩
   rw [← hR] at KC
   have hRl : R.data.toList = textB (ds.drop (k + 1)) ++ rest := by rw [hR]
   have hRs : R.size < C.size := by
    rw [← list_size, ← list_size, hRl, hC']
    simp only [List.length_append, List.length_cons]
    omega
   obtain ⟨T, hTx⟩ : ∃ T : ByteArray, T = ⟨(lineT d).toArray⟩ := ⟨_, rfl⟩
   rw [← hTx] at KC KR
   have hk64 : (k : Int) < 64 := by omega
   replace hdok := mK hdok
   replace hbef := mK hbef
   replace hcat := mK hcat
   replace hEw := mK hEw
   replace hmap := mK hmap
   replace htake := mK htake
   replace hRl := mK hRl
   replace hRs := mK hRs
   replace hel := mK hel
   clear hd hdrop hlast hC hC' hcut hsz hll hCne cl cs hR hTx hL
   have tok : Tok 2 := .mk _
   go_wp2_with (first
    | (replace tok : Tok 3 := nxT 2 tok; go_at_call 15; refine KC.out.mono ?_; rintro e w3 ⟨rfl, hx⟩; (have hE2 := mK (hEw.out.trans hx)); (have hc2 := mK (hcat.out.ext hx)); clear hx)
    | (replace tok : Tok 4 := nxT 3 tok; go_at_call 16; refine (KR.out _ hE2.out).mono ?_; rintro e w4 ⟨p, q, rfl, hp, hq, hx⟩; (have hE3 := hE2.out.trans hx); (have hc3 := hc2.out.ext hx); (obtain ⟨w5, hw5⟩ : ∃ w5, w5 = (w4.alloc (.cells #[.string ⟨#[]⟩, .int .u8 0, .bool false, .slice none 0 0, .bool false, .slice none 0 0, .bool false, .slice none 0 0, .bool false, .slice none 0 0, .int .i64 0] 56)).setRow w4.heap.size #[.string d.nm, .int .u8 d.kd, .bool p.b1, .slice p.a1 p.n1 p.c1, .bool p.b2, .slice p.a2 p.n2 p.c2, .bool q.b1, .slice q.a1 q.n1 q.c1, .bool q.b2, .slice q.a2 q.n2 q.c2, .int .i64 d.co] := ⟨_, rfl⟩); (have zn := heap_alloc_new w4 (.cells #[.string ⟨#[]⟩, .int .u8 0, .bool false, .slice none 0 0, .bool false, .slice none 0 0, .bool false, .slice none 0 0, .bool false, .slice none 0 0, .int .i64 0] 56)); (have z5 := mK (show w5.heap[w4.heap.size]? = some (.cells #[.string d.nm, .int .u8 d.kd, .bool p.b1, .slice p.a1 p.n1 p.c1, .bool p.b2, .slice p.a2 p.n2 p.c2, .bool q.b1, .slice q.a1 q.n1 q.c1, .bool q.b2, .slice q.a2 q.n2 q.c2, .int .i64 d.co] 56 (0, 0)) by rw [hw5]; exact setRow_heap _ _ _ _ _ _ zn)); (have hx5 : Ext w4 w5 := by rw [hw5]; exact ((xR w4).al _).row (nR _) _); (have hsp := mK (fun k hk => ((⟨nT (Nat.le_of_eq rfl) (hp.part hq k hk).1, Nat.lt_of_lt_of_le (hp.part hq k hk).2 hx5.size⟩ : w3.heap.size ≤ k ∧ k < w5.heap.size)))); (have hpr := mK ((PartR.mk hp.r hq.r).ext hx5)); (have hMs := mK (show M < w3.heap.size from hc2.out.map.lt)); (have hgM : w4.heap.size ≠ M := by have := hc3.map.lt; omega); (have hc5 := mK (hc3.ext hx5)); (have hE5 := mK (hE3.trans hx5)); replace hw5 := mK hw5; replace zn := mK zn; clear hx hx5 hc3 hE3 hp hq)
    | (replace tok : Tok 5 := nxT 4 tok; refine wpList_store_row rfl 56 (.tmp 9) (.tmp 31) rfl w4.heap.size #[.string d.nm, .int .u8 d.kd, .bool p.b1, .slice p.a1 p.n1 p.c1, .bool p.b2, .slice p.a2 p.n2 p.c2, .bool q.b1, .slice q.a1 q.n1 q.c1, .bool q.b2, .slice q.a2 q.n2 q.c2, .int .i64 d.co] rfl rfl 56 _ zn.out (by kernel_rfl) rfl (by kernel_rfl) ?_; rw [← hw5.out]; (have c0 : w5.cell? ⟨w4.heap.size, 0, none⟩ = some (.string d.nm) := row16_cells z5.out 0)))
   clear tok c0
   have hnm : d.nm.size ≤ maxLen := by
    have := okPD_sz hdok.out
    unfold maxLen
    omega
   obtain ⟨a, clock, hck, F, hnk, hmp⟩ := mapP_new hc5.out.map (d, .agg #[.string d.nm, .int .u8 d.kd, .bool p.b1, .slice p.a1 p.n1 p.c1, .bool p.b2, .slice p.a2 p.n2 p.c2, .bool q.b1, .slice q.a1 q.n1 q.c1, .bool q.b2, .slice q.a2 q.n2 q.c2, .int .i64 d.co]) hnm (by have := hel.out; unfold maxLen; omega) (find_last hbef.out)
   replace hnk : ∀ e ∈ a.toList, e.key ≠ .string d.nm := hnk
   replace hmp : ∀ W : World, W.heap[M]? = some (newA a d.nm (.agg #[.string d.nm, .int .u8 d.kd, .bool p.b1, .slice p.a1 p.n1 p.c1, .bool p.b2, .slice p.a2 p.n2 p.c2, .bool q.b1, .slice q.a1 q.n1 q.c1, .bool q.b2, .slice q.a2 q.n2 q.c2, .int .i64 d.co]) clock) → MapP W M (insP (d, .agg #[.string d.nm, .int .u8 d.kd, .bool p.b1, .slice p.a1 p.n1 p.c1, .bool p.b2, .slice p.a2 p.n2 p.c2, .bool q.b1, .slice q.a1 q.n1 q.c1, .bool q.b2, .slice q.a2 q.n2 q.c2, .int .i64 d.co]) es) := hmp
   have hgs := hc5.out.str
   have hgne : g ≠ M := hc5.out.ne
   have hMlt := (Array.getElem?_eq_some_iff.1 hck).1
   have HL : ∀ W, EnA M a d.nm (.agg #[.string d.nm, .int .u8 d.kd, .bool p.b1, .slice p.a1 p.n1 p.c1, .bool p.b2, .slice p.a2 p.n2 p.c2, .bool q.b1, .slice q.a1 q.n1 q.c1, .bool q.b2, .slice q.a2 q.n2 q.c2, .int .i64 d.co]) clock w5 W → W.cell? ⟨g, 0, none⟩ = some (.map (some M)) := fun W e => cell0 (e.blk hgs hgne)
   have HS : ∀ W, EnA M a d.nm (.agg #[.string d.nm, .int .u8 d.kd, .bool p.b1, .slice p.a1 p.n1 p.c1, .bool p.b2, .slice p.a2 p.n2 p.c2, .bool q.b1, .slice q.a1 q.n1 q.c1, .bool q.b2, .slice q.a2 q.n2 q.c2, .int .i64 d.co]) clock w5 W → W.cell? ⟨w4.heap.size, 0, none⟩ = some (.string d.nm) := fun W e => row16_cells (e.blk z5.out hgM) 0
   have HP := mK (fun W (e : EnA M a d.nm (.agg #[.string d.nm, .int .u8 d.kd, .bool p.b1, .slice p.a1 p.n1 p.c1, .bool p.b2, .slice p.a2 p.n2 p.c2, .bool q.b1, .slice q.a1 q.n1 q.c1, .bool q.b2, .slice q.a2 q.n2 q.c2, .int .i64 d.co]) clock w5 W) => e.blk z5.out hgM)
   have hset : Hid (∀ (W : World) (o o' : Obj), W.heap[M]? = some o → (setBlock W M o').heap[M]? = some o') := mK fun W o o' h => by
    have := (Array.getElem?_eq_some_iff.1 h).1
    simp [setBlock, this]
   have HE : Hid (∀ W, EnA M a d.nm (.agg #[.string d.nm, .int .u8 d.kd, .bool p.b1, .slice p.a1 p.n1 p.c1, .bool p.b2, .slice p.a2 p.n2 p.c2, .bool q.b1, .slice q.a1 q.n1 q.c1, .bool q.b2, .slice q.a2 q.n2 q.c2, .int .i64 d.co]) clock w5 W → ∃ v W', (Instr.mapEntry 59 (.map (some M)) (.string d.nm)).run Tryz.prog W = .ok v W' ∧ (EnA M a d.nm (.agg #[.string d.nm, .int .u8 d.kd, .bool p.b1, .slice p.a1 p.n1 p.c1, .bool p.b2, .slice p.a2 p.n2 p.c2, .bool q.b1, .slice q.a1 q.n1 q.c1, .bool q.b2, .slice q.a2 q.n2 q.c2, .int .i64 d.co]) clock W W' ∧ EntA M a d.nm (.agg #[.string d.nm, .int .u8 d.kd, .bool p.b1, .slice p.a1 p.n1 p.c1, .bool p.b2, .slice p.a2 p.n2 p.c2, .bool q.b1, .slice q.a1 q.n1 q.c1, .bool q.b2, .slice q.a2 q.n2 q.c2, .int .i64 d.co]) clock W' v)) := mK fun W e => by
    rcases e.map with f | ⟨f1, f⟩ | f | f
    ·have f := f.trans hck
     exact ⟨_, _, entry_newA W M clock a _ hnm F hnk f, EnA.set f (.inr (.inl ⟨rfl, rfl⟩)), ⟨_, rfl⟩, .inl (hset.out _ _ _ f)⟩
    ·exact ⟨_, _, entry_oldA W M clock a _ _ hnm F hnk f, EnA.set f (.inl rfl), ⟨_, rfl⟩, .inl (hset.out _ _ _ f)⟩
    ·exact ⟨_, _, entry_oldA W M clock a _ _ hnm F hnk f, EnA.set f (.inl rfl), ⟨_, rfl⟩, .inr (hset.out _ _ _ f)⟩
    ·omega
   have HX : Hid (∀ W, HasE M a d.nm (.agg #[.string d.nm, .int .u8 d.kd, .bool p.b1, .slice p.a1 p.n1 p.c1, .bool p.b2, .slice p.a2 p.n2 p.c2, .bool q.b1, .slice q.a1 q.n1 q.c1, .bool q.b2, .slice q.a2 q.n2 q.c2, .int .i64 d.co]) clock W → ∃ W', (Instr.entryStore 59 (.map (some M)) (.int .i64 clock) (.agg #[.string d.nm, .int .u8 d.kd, .bool p.b1, .slice p.a1 p.n1 p.c1, .bool p.b2, .slice p.a2 p.n2 p.c2, .bool q.b1, .slice q.a1 q.n1 q.c1, .bool q.b2, .slice q.a2 q.n2 q.c2, .int .i64 d.co])).run Tryz.prog W = .ok () W' ∧ (EnA M a d.nm (.agg #[.string d.nm, .int .u8 d.kd, .bool p.b1, .slice p.a1 p.n1 p.c1, .bool p.b2, .slice p.a2 p.n2 p.c2, .bool q.b1, .slice q.a1 q.n1 q.c1, .bool q.b2, .slice q.a2 q.n2 q.c2, .int .i64 d.co]) clock W W' ∧ DoneA M a d.nm (.agg #[.string d.nm, .int .u8 d.kd, .bool p.b1, .slice p.a1 p.n1 p.c1, .bool p.b2, .slice p.a2 p.n2 p.c2, .bool q.b1, .slice q.a1 q.n1 q.c1, .bool q.b2, .slice q.a2 q.n2 q.c2, .int .i64 d.co]) clock W' undef)) := mK fun W h => by
    rcases h with h | h
    ·exact ⟨_, entry_storeA W M clock a _ _ _ F h, EnA.set h (.inr (.inr rfl)), hset.out _ _ _ h⟩
    ·exact ⟨_, entry_storeA W M clock a _ _ _ F h, EnA.set h (.inr (.inr rfl)), hset.out _ _ _ h⟩
   replace hck := mK hck
   replace hmp := mK hmp
   clear hgs hMlt hnk F hnm
   apply region_entryA M a d.nm (.agg #[.string d.nm, .int .u8 d.kd, .bool p.b1, .slice p.a1 p.n1 p.c1, .bool p.b2, .slice p.a2 p.n2 p.c2, .bool q.b1, .slice q.a1 q.n1 q.c1, .bool q.b2, .slice q.a2 q.n2 q.c2, .int .i64 d.co]) clock [.val (.pointer (some ⟨g, 0, none⟩)), .val (.pointer (some ⟨g, 0, none⟩)), .val (.pointer (some ⟨g, 0, none⟩)), .val (.map (some M)), .val (.pointer (some ⟨w4.heap.size, 0, none⟩)), .val (.string d.nm), .val (.agg #[.string d.nm, .int .u8 d.kd, .bool p.b1, .slice p.a1 p.n1 p.c1, .bool p.b2, .slice p.a2 p.n2 p.c2, .bool q.b1, .slice q.a1 q.n1 q.c1, .bool q.b2, .slice q.a2 q.n2 q.c2, .int .i64 d.co]), .val (.pointer (some ⟨w4.heap.size, 0, none⟩)), .val (.string d.nm), .val (.string R), .pred (EntA M a d.nm (.agg #[.string d.nm, .int .u8 d.kd, .bool p.b1, .slice p.a1 p.n1 p.c1, .bool p.b2, .slice p.a2 p.n2 p.c2, .bool q.b1, .slice q.a1 q.n1 q.c1, .bool q.b2, .slice q.a2 q.n2 q.c2, .int .i64 d.co]) clock), .pred (ClkA M a d.nm (.agg #[.string d.nm, .int .u8 d.kd, .bool p.b1, .slice p.a1 p.n1 p.c1, .bool p.b2, .slice p.a2 p.n2 p.c2, .bool q.b1, .slice q.a1 q.n1 q.c1, .bool q.b2, .slice q.a2 q.n2 q.c2, .int .i64 d.co]) clock), .pred (DoneA M a d.nm (.agg #[.string d.nm, .int .u8 d.kd, .bool p.b1, .slice p.a1 p.n1 p.c1, .bool p.b2, .slice p.a2 p.n2 p.c2, .bool q.b1, .slice q.a1 q.n1 q.c1, .bool q.b2, .slice q.a2 q.n2 q.c2, .int .i64 d.co]) clock), .val (.string d.nm)]
   case hok => kernel_rfl
   case hst => exact (sA_val _ (sA_val _ (sA_val _ (sA_val _ (sA_val _ (sA_val _ (sA_val _ (sA_val _ (sA_val _ (sA_val _ (sA_ent (sA_clk (sA_done (sA_val _ trivial))))))))))))))
   case hvo =>
    iterate 12 (refine ⟨(by intro h; cases h), ?_⟩)
    exact ⟨fun _ _ _ h => h, (by intro h; cases h), trivial⟩
   iterate 3 (refine ⟨fun W hW _ => by go_simp; first | exact ⟨.of_ext (xR _), rfl⟩ | exact .of_ext (xR _), ?_⟩)
   refine ⟨fun W hW _ => by have := HL W hW; go_simp; first | exact ⟨.of_ext (xR _), rfl⟩ | exact .of_ext (xR _), ?_⟩
   refine ⟨fun W hW _ => by go_simp; first | exact ⟨.of_ext (xR _), rfl⟩ | exact .of_ext (xR _), ?_⟩
   refine ⟨fun W hW _ => by have := HS W hW; go_simp; first | exact ⟨.of_ext (xR _), rfl⟩ | exact .of_ext (xR _), ?_⟩
   refine ⟨?ld, ?_⟩
   case ld =>
    intro W hW hF
    have hr := HP.out W hW
    with_reducible refine fr_load ?zhw 56 (.tmp 9) ?zho w4.heap.size ?zhx 56 #[.string d.nm, .int .u8 d.kd, .bool p.b1, .slice p.a1 p.n1 p.c1, .bool p.b2, .slice p.a2 p.n2 p.c2, .bool q.b1, .slice q.a1 q.n1 q.c1, .bool q.b2, .slice q.a2 q.n2 q.c2, .int .i64 d.co] (0, 0) _ hr Tryz.underlying56 ?zhd ?zhi ?zh
    case zhw => kernel_rfl
    case zho => rfl
    case zhx => kernel_rfl
    case zhd => rfl
    case zhi => kernel_rfl
    case zh => exact ⟨.of_ext (xR _), rfl⟩
   refine ⟨fun W hW _ => by go_simp; first | exact ⟨.of_ext (xR _), rfl⟩ | exact .of_ext (xR _), ?_⟩
   refine ⟨fun W hW _ => by have := HS W hW; go_simp; first | exact ⟨.of_ext (xR _), rfl⟩ | exact .of_ext (xR _), ?_⟩
   refine ⟨fun W hW _ => by go_simp; first | exact ⟨.of_ext (xR _), rfl⟩ | exact .of_ext (xR _), ?_⟩
   refine ⟨?en, fun v10 => ?_⟩
   case en =>
    intro W hW hF
    have y1 := HE.out W hW
    with_reducible refine fr_entry ?zhw 59 (.tmp 51) (.tmp 53) ?zho (.map (some M)) (.string d.nm) ?zhm ?zhk y1
    case zhw => kernel_rfl
    case zho => rfl
    case zhm => kernel_rfl
    case zhk => kernel_rfl
   refine ⟨?ex, fun v11 => ?_⟩
   case ex =>
    intro W hW hF
    have hv : (∃ y, v10 = .tuple #[y, .int .i64 clock]) ∧ HasE M a d.nm (.agg #[.string d.nm, .int .u8 d.kd, .bool p.b1, .slice p.a1 p.n1 p.c1, .bool p.b2, .slice p.a2 p.n2 p.c2, .bool q.b1, .slice q.a1 q.n1 q.c1, .bool q.b2, .slice q.a2 q.n2 q.c2, .int .i64 d.co]) clock W := hF.1 (by kernel_rfl)
    with_reducible refine fr_extract1 ?zhw (.tmp 58) ?zho v10 (.int .i64 clock) ?zhx hv.1 ?zh
    case zhw => kernel_rfl
    case zho => rfl
    case zhx => kernel_rfl
    case zh => exact ⟨.of_ext (xR _), rfl, hv.2⟩
   refine ⟨?es, fun v12 => ?_⟩
   case es =>
    intro W hW hF
    have hv : v11 = .int .i64 clock ∧ HasE M a d.nm (.agg #[.string d.nm, .int .u8 d.kd, .bool p.b1, .slice p.a1 p.n1 p.c1, .bool p.b2, .slice p.a2 p.n2 p.c2, .bool q.b1, .slice q.a1 q.n1 q.c1, .bool q.b2, .slice q.a2 q.n2 q.c2, .int .i64 d.co]) clock W := hF.1 (by kernel_rfl)
    have y1 := HX.out W hv.2
    rw [← hv.1] at y1
    with_reducible refine fr_estore ?zhw 59 (.tmp 51) (.tmp 59) (.tmp 54) ?zho (.map (some M)) v11 (.agg #[.string d.nm, .int .u8 d.kd, .bool p.b1, .slice p.a1 p.n1 p.c1, .bool p.b2, .slice p.a2 p.n2 p.c2, .bool q.b1, .slice q.a1 q.n1 q.c1, .bool q.b2, .slice q.a2 q.n2 q.c2, .int .i64 d.co]) ?zhm ?zhk ?zhx y1
    case zhw => kernel_rfl
    case zho => rfl
    case zhm => kernel_rfl
    case zhk => kernel_rfl
    case zhx => kernel_rfl
   refine ⟨fun W hW _ => by go_simp; first | exact ⟨.of_ext (xR _), rfl⟩ | exact .of_ext (xR _), ?_⟩
   case _ =>
    intro w6 hW hF
    have hdone : w6.heap[M]? = some (newA a d.nm (.agg #[.string d.nm, .int .u8 d.kd, .bool p.b1, .slice p.a1 p.n1 p.c1, .bool p.b2, .slice p.a2 p.n2 p.c2, .bool q.b1, .slice q.a1 q.n1 q.c1, .bool q.b2, .slice q.a2 q.n2 q.c2, .int .i64 d.co]) clock) := hF.1 rfl
    have hc6 : Cat w6 g M (es ++ [(d, .agg #[.string d.nm, .int .u8 d.kd, .bool p.b1, .slice p.a1 p.n1 p.c1, .bool p.b2, .slice p.a2 p.n2 p.c2, .bool q.b1, .slice q.a1 q.n1 q.c1, .bool q.b2, .slice q.a2 q.n2 q.c2, .int .i64 d.co])]) := by
     rw [← ins_last hbef.out]
     exact hc5.out.putR (hmp.out w6 hdone) hW.block hW.size hpr.out hsp.out hMs.out hdok.out (by have := hel.out; omega)
    have hE6 : Ext w w6 := by
     have h1 := hE5.out
     refine ⟨hW.os.trans h1.os, hW.tape.trans h1.tape, hW.output.trans h1.output, nT h1.size hW.size, fun j hj => ?_⟩
     rw [hW.block j (Nat.lt_of_lt_of_le hj h1.size) (by have := hMl.out; omega)]
     exact h1.block j hj
    replace hE6 := mK hE6
    replace hc6 := mK hc6
    clear HL HS hF hW hdone
    go_simp
    go_wp2_with fail
    refine ⟨⟨k + 1, _, R, d.nm, by omega, rfl, rfl, hRl.out, by go_num, rfl, ?_, hc6.out, ?_, hE6.out⟩, hRs.out⟩
    ·rw [htake.out, lastN_snoc]
     rfl
    ·rw [List.map_append, hmap.out, htake.out]
     rfl
  ·obtain rfl : k = ds.length := by omega
   rw [List.take_length] at hL hmap
   rw [List.drop_length, show textB [] = [] from rfl, List.nil_append] at hC cl cs
   have hsz : C.size ≤ 65536 := by
    have h2 := hlen.out
    rw [List.length_append] at h2
    omega
   clear hkd hk hok hr hlen
   cases hend.out with
   | done h0 =>
    obtain ⟨f1, f2, f3⟩ := empty_facts (l := C.toList) (b := true) (by rw [cl, h0]; rfl)
    replace hcat := mK hcat
    replace hmap := mK hmap
    replace hEw := mK hEw
    clear hC cl cs hL hsz h0
    go_wp2_with fail
    go_ret3
    exact .inl ⟨rfl, g, M, es, rfl, hcat.out, hmap.out, hEw.out, hg.out, hMl.out⟩
   | cut h0 hcut =>
    have hCne : C.toList ≠ [] := by rw [cl]; exact h0
    obtain ⟨f1, f2, f3⟩ := empty_facts (l := C.toList) (b := false) (decide_eq_false hCne)
    have KC := mK (cut_miss 10 C w2 (by omega) (hM.out _ hEw) (by rw [hC]; exact hcut))
    replace hEw := mK hEw
    clear hC cl cs hL hsz h0 hCne hcut hcat hmap
    go_wp2_with (go_at_call 15; refine KC.out.mono ?_; rintro e w3 ⟨rfl, hx⟩; (have hE2 := mK (hEw.out.trans hx)); clear hx)
    go_ret3
    exact .inr ⟨by decide, rfl, hE2.out⟩
   | line t r _ hcut hc KR =>
    obtain ⟨C1, hC1⟩ : ∃ C1 : ByteArray, C1 = ⟨t.toArray⟩ := ⟨_, rfl⟩
    obtain ⟨C2, hC2⟩ : ∃ C2 : ByteArray, C2 = ⟨r.toArray⟩ := ⟨_, rfl⟩
    have hCne : C.toList ≠ [] := by
     rw [cl]
     intro e
     rw [e] at hcut
     cases hcut
    obtain ⟨f1, f2, f3⟩ := empty_facts (l := C.toList) (b := false) (decide_eq_false hCne)
    have KC := cut_hit 10 C w2 (by omega) (hM.out _ hEw) (by rw [hC]; exact hcut)
    rw [← hC1, ← hC2] at KC
    rw [← hC1] at KR
    replace KC := mK KC
    replace KR := mK KR
    replace hEw := mK hEw
    clear hC1 hC2 hCne hcut hC cl cs hcat hmap
    have hcb : (code != 0) = true := by simpa using hc
    replace hc := mK hc
    clear hL hsz
    have tok : Tok 2 := .mk _
    go_wp2_with (first
     | (replace tok : Tok 3 := nxT 2 tok; go_at_call 15; refine KC.out.mono ?_; rintro e w3 ⟨rfl, hx⟩; (have hE2 := mK (hEw.out.trans hx)); clear hx)
     | (replace tok : Tok 4 := nxT 3 tok; go_at_call 16; refine (KR.out _ hE2.out).mono ?_; rintro e w4 ⟨rfl, hx⟩; (have hE3 := mK (hE2.out.trans hx)); clear hx; (obtain ⟨w5, hw5⟩ : ∃ w5, w5 = (w4.alloc (.cells #[.string ⟨#[]⟩, .int .u8 0, .bool false, .slice none 0 0, .bool false, .slice none 0 0, .bool false, .slice none 0 0, .bool false, .slice none 0 0, .int .i64 0] 56)).setRow w4.heap.size #[.string ⟨#[]⟩, .int .u8 0, .bool false, .slice none 0 0, .bool false, .slice none 0 0, .bool false, .slice none 0 0, .bool false, .slice none 0 0, .int .i64 0] := ⟨_, rfl⟩); (have zn := heap_alloc_new w4 (.cells #[.string ⟨#[]⟩, .int .u8 0, .bool false, .slice none 0 0, .bool false, .slice none 0 0, .bool false, .slice none 0 0, .bool false, .slice none 0 0, .int .i64 0] 56)); (have hE5 := mK (show Ext w w5 by rw [hw5]; exact (hE3.out.al _).row hE3.out.size _)); replace hw5 := mK hw5; replace zn := mK zn)
     | (replace tok : Tok 5 := nxT 4 tok; refine wpList_store_row rfl 56 (.tmp 9) (.tmp 31) rfl w4.heap.size #[.string ⟨#[]⟩, .int .u8 0, .bool false, .slice none 0 0, .bool false, .slice none 0 0, .bool false, .slice none 0 0, .bool false, .slice none 0 0, .int .i64 0] rfl rfl 56 _ zn.out (by kernel_rfl) rfl (by kernel_rfl) ?_; rw [← hw5.out]))
    go_ret3
    exact .inr ⟨hc.out, rfl, hE5.out⟩
   | name t r d hcut KR hb =>
    obtain ⟨C1, hC1⟩ : ∃ C1 : ByteArray, C1 = ⟨t.toArray⟩ := ⟨_, rfl⟩
    obtain ⟨C2, hC2⟩ : ∃ C2 : ByteArray, C2 = ⟨r.toArray⟩ := ⟨_, rfl⟩
    have hCne : C.toList ≠ [] := by
     rw [cl]
     intro e
     rw [e] at hcut
     cases hcut
    obtain ⟨f1, f2, f3⟩ := empty_facts (l := C.toList) (b := false) (decide_eq_false hCne)
    have KC := cut_hit 10 C w2 (by omega) (hM.out _ hEw) (by rw [hC]; exact hcut)
    rw [← hC1, ← hC2] at KC
    rw [← hC1] at KR
    replace KC := mK KC
    replace KR := mK KR
    replace hEw := mK hEw
    clear hC1 hC2 hCne hcut hC cl cs hcat hmap
    rw [← hL] at hb
    rcases bef_total _ _ hb with h | h
    ·obtain ⟨n1, n2, n3, n4⟩ := name_cmp (a := d.nm) (b := L) h
     clear hL hsz hb h
     have tok : Tok 2 := .mk _
     go_wp2_with (first
      | (replace tok : Tok 3 := nxT 2 tok; go_at_call 15; refine KC.out.mono ?_; rintro e w3 ⟨rfl, hx⟩; (have hE2 := mK (hEw.out.trans hx)); clear hx)
      | (replace tok : Tok 4 := nxT 3 tok; go_at_call 16; refine (KR.out _ hE2.out).mono ?_; rintro e w4 ⟨p, q, rfl, -, -, hx⟩; (have hE3 := hE2.out.trans hx); (obtain ⟨w5, hw5⟩ : ∃ w5, w5 = (w4.alloc (.cells #[.string ⟨#[]⟩, .int .u8 0, .bool false, .slice none 0 0, .bool false, .slice none 0 0, .bool false, .slice none 0 0, .bool false, .slice none 0 0, .int .i64 0] 56)).setRow w4.heap.size #[.string d.nm, .int .u8 d.kd, .bool p.b1, .slice p.a1 p.n1 p.c1, .bool p.b2, .slice p.a2 p.n2 p.c2, .bool q.b1, .slice q.a1 q.n1 q.c1, .bool q.b2, .slice q.a2 q.n2 q.c2, .int .i64 d.co] := ⟨_, rfl⟩); (have zn := heap_alloc_new w4 (.cells #[.string ⟨#[]⟩, .int .u8 0, .bool false, .slice none 0 0, .bool false, .slice none 0 0, .bool false, .slice none 0 0, .bool false, .slice none 0 0, .int .i64 0] 56)); (have z5 := mK (show w5.heap[w4.heap.size]? = some (.cells #[.string d.nm, .int .u8 d.kd, .bool p.b1, .slice p.a1 p.n1 p.c1, .bool p.b2, .slice p.a2 p.n2 p.c2, .bool q.b1, .slice q.a1 q.n1 q.c1, .bool q.b2, .slice q.a2 q.n2 q.c2, .int .i64 d.co] 56 (0, 0)) by rw [hw5]; exact setRow_heap _ _ _ _ _ _ zn)); (have hE5 := mK (show Ext w w5 by rw [hw5]; exact (hE3.al _).row (nT (hE3.size) (nR _)) _)); replace hw5 := mK hw5; replace zn := mK zn; clear hx hE3)
      | (replace tok : Tok 5 := nxT 4 tok; refine wpList_store_row rfl 56 (.tmp 9) (.tmp 31) rfl w4.heap.size #[.string d.nm, .int .u8 d.kd, .bool p.b1, .slice p.a1 p.n1 p.c1, .bool p.b2, .slice p.a2 p.n2 p.c2, .bool q.b1, .slice q.a1 q.n1 q.c1, .bool q.b2, .slice q.a2 q.n2 q.c2, .int .i64 d.co] rfl rfl 56 _ zn.out (by kernel_rfl) rfl (by kernel_rfl) ?_; rw [← hw5.out]; (have c0 : w5.cell? ⟨w4.heap.size, 0, none⟩ = some (.string d.nm) := row16_cells z5.out 0)))
     go_ret3
     exact .inr ⟨by decide, rfl, hE5.out⟩
    ·have hl2 : L = d.nm := ByteArray.ext (Array.ext' (show L.data.toList = d.nm.data.toList from h.symm))
     clear hL hsz hb h
     subst hl2
     have n1 : (d.nm.toList == d.nm.toList) = true := by simp
     have tok : Tok 2 := .mk _
     go_wp2_with (first
      | (replace tok : Tok 3 := nxT 2 tok; go_at_call 15; refine KC.out.mono ?_; rintro e w3 ⟨rfl, hx⟩; (have hE2 := mK (hEw.out.trans hx)); clear hx)
      | (replace tok : Tok 4 := nxT 3 tok; go_at_call 16; refine (KR.out _ hE2.out).mono ?_; rintro e w4 ⟨p, q, rfl, -, -, hx⟩; (have hE3 := hE2.out.trans hx); (obtain ⟨w5, hw5⟩ : ∃ w5, w5 = (w4.alloc (.cells #[.string ⟨#[]⟩, .int .u8 0, .bool false, .slice none 0 0, .bool false, .slice none 0 0, .bool false, .slice none 0 0, .bool false, .slice none 0 0, .int .i64 0] 56)).setRow w4.heap.size #[.string d.nm, .int .u8 d.kd, .bool p.b1, .slice p.a1 p.n1 p.c1, .bool p.b2, .slice p.a2 p.n2 p.c2, .bool q.b1, .slice q.a1 q.n1 q.c1, .bool q.b2, .slice q.a2 q.n2 q.c2, .int .i64 d.co] := ⟨_, rfl⟩); (have zn := heap_alloc_new w4 (.cells #[.string ⟨#[]⟩, .int .u8 0, .bool false, .slice none 0 0, .bool false, .slice none 0 0, .bool false, .slice none 0 0, .bool false, .slice none 0 0, .int .i64 0] 56)); (have z5 := mK (show w5.heap[w4.heap.size]? = some (.cells #[.string d.nm, .int .u8 d.kd, .bool p.b1, .slice p.a1 p.n1 p.c1, .bool p.b2, .slice p.a2 p.n2 p.c2, .bool q.b1, .slice q.a1 q.n1 q.c1, .bool q.b2, .slice q.a2 q.n2 q.c2, .int .i64 d.co] 56 (0, 0)) by rw [hw5]; exact setRow_heap _ _ _ _ _ _ zn)); (have hE5 := mK (show Ext w w5 by rw [hw5]; exact (hE3.al _).row (nT (hE3.size) (nR _)) _)); replace hw5 := mK hw5; replace zn := mK zn; clear hx hE3)
      | (replace tok : Tok 5 := nxT 4 tok; refine wpList_store_row rfl 56 (.tmp 9) (.tmp 31) rfl w4.heap.size #[.string d.nm, .int .u8 d.kd, .bool p.b1, .slice p.a1 p.n1 p.c1, .bool p.b2, .slice p.a2 p.n2 p.c2, .bool q.b1, .slice q.a1 q.n1 q.c1, .bool q.b2, .slice q.a2 q.n2 q.c2, .int .i64 d.co] rfl rfl 56 _ zn.out (by kernel_rfl) rfl (by kernel_rfl) ?_; rw [← hw5.out]; (have c0 : w5.cell? ⟨w4.heap.size, 0, none⟩ = some (.string d.nm) := row16_cells z5.out 0)))
     go_ret3
     exact .inr ⟨by decide, rfl, hE5.out⟩
   | full t r d hcut KR hb h64 =>
    obtain ⟨C1, hC1⟩ : ∃ C1 : ByteArray, C1 = ⟨t.toArray⟩ := ⟨_, rfl⟩
    obtain ⟨C2, hC2⟩ : ∃ C2 : ByteArray, C2 = ⟨r.toArray⟩ := ⟨_, rfl⟩
    have hCne : C.toList ≠ [] := by
     rw [cl]
     intro e
     rw [e] at hcut
     cases hcut
    obtain ⟨f1, f2, f3⟩ := empty_facts (l := C.toList) (b := false) (decide_eq_false hCne)
    have KC := cut_hit 10 C w2 (by omega) (hM.out _ hEw) (by rw [hC]; exact hcut)
    rw [← hC1, ← hC2] at KC
    rw [← hC1] at KR
    replace KC := mK KC
    replace KR := mK KR
    replace hEw := mK hEw
    clear hC1 hC2 hCne hcut hC cl cs hcat hmap
    rw [← hL] at hb
    obtain ⟨n1, n2, n3, n4⟩ := name_cmp (a := L) (b := d.nm) hb
    have hk64 : (64 : Int) ≤ (ds.length : Int) := by omega
    clear hL hsz hb
    have tok : Tok 2 := .mk _
    go_wp2_with (first
     | (replace tok : Tok 3 := nxT 2 tok; go_at_call 15; refine KC.out.mono ?_; rintro e w3 ⟨rfl, hx⟩; (have hE2 := mK (hEw.out.trans hx)); clear hx)
     | (replace tok : Tok 4 := nxT 3 tok; go_at_call 16; refine (KR.out _ hE2.out).mono ?_; rintro e w4 ⟨p, q, rfl, -, -, hx⟩; (have hE3 := hE2.out.trans hx); (obtain ⟨w5, hw5⟩ : ∃ w5, w5 = (w4.alloc (.cells #[.string ⟨#[]⟩, .int .u8 0, .bool false, .slice none 0 0, .bool false, .slice none 0 0, .bool false, .slice none 0 0, .bool false, .slice none 0 0, .int .i64 0] 56)).setRow w4.heap.size #[.string d.nm, .int .u8 d.kd, .bool p.b1, .slice p.a1 p.n1 p.c1, .bool p.b2, .slice p.a2 p.n2 p.c2, .bool q.b1, .slice q.a1 q.n1 q.c1, .bool q.b2, .slice q.a2 q.n2 q.c2, .int .i64 d.co] := ⟨_, rfl⟩); (have zn := heap_alloc_new w4 (.cells #[.string ⟨#[]⟩, .int .u8 0, .bool false, .slice none 0 0, .bool false, .slice none 0 0, .bool false, .slice none 0 0, .bool false, .slice none 0 0, .int .i64 0] 56)); (have z5 := mK (show w5.heap[w4.heap.size]? = some (.cells #[.string d.nm, .int .u8 d.kd, .bool p.b1, .slice p.a1 p.n1 p.c1, .bool p.b2, .slice p.a2 p.n2 p.c2, .bool q.b1, .slice q.a1 q.n1 q.c1, .bool q.b2, .slice q.a2 q.n2 q.c2, .int .i64 d.co] 56 (0, 0)) by rw [hw5]; exact setRow_heap _ _ _ _ _ _ zn)); (have hE5 := mK (show Ext w w5 by rw [hw5]; exact (hE3.al _).row (nT (hE3.size) (nR _)) _)); replace hw5 := mK hw5; replace zn := mK zn; clear hx hE3)
     | (replace tok : Tok 5 := nxT 4 tok; refine wpList_store_row rfl 56 (.tmp 9) (.tmp 31) rfl w4.heap.size #[.string d.nm, .int .u8 d.kd, .bool p.b1, .slice p.a1 p.n1 p.c1, .bool p.b2, .slice p.a2 p.n2 p.c2, .bool q.b1, .slice q.a1 q.n1 q.c1, .bool q.b2, .slice q.a2 q.n2 q.c2, .int .i64 d.co] rfl rfl 56 _ zn.out (by kernel_rfl) rfl (by kernel_rfl) ?_; rw [← hw5.out]; (have c0 : w5.cell? ⟨w4.heap.size, 0, none⟩ = some (.string d.nm) := row16_cells z5.out 0)))
    go_ret3
    exact .inr ⟨by decide, rfl, hE5.out⟩
end Go.Proofs.YtjelnmokcpoofaaGreatDoor
namespace Go.Proofs.YtjelnmokcpoofaaGreatDoor
set_option maxRecDepth 100000
open Go Go.ChangeShapes Go.WideShapes Go.ChangeAt Go.RowKit Go.Joins Go.Deep
def cellsV (vs : List Value) : List Value := vs.flatMap fun v => v.cells.toList
theorem cellsV_cons (v : Value) (vs : List Value) : cellsV (v :: vs) = v.cells.toList ++ cellsV vs := List.flatMap_cons
theorem cellsV_append (a b : List Value) : cellsV (a ++ b) = cellsV a ++ cellsV b := List.flatMap_append
def Is11 (vs : List Value) : Prop := ∀ v ∈ vs, ∃ (nm : ByteArray) (kd co : Int) (p q : FV), v = .agg #[.string nm, .int .u8 kd, .bool p.b1, .slice p.a1 p.n1 p.c1, .bool p.b2, .slice p.a2 p.n2 p.c2, .bool q.b1, .slice q.a1 q.n1 q.c1, .bool q.b2, .slice q.a2 q.n2 q.c2, .int .i64 co]
theorem cellsV_len : ∀ {vs : List Value}, Is11 vs → (cellsV vs).length = vs.length * 11
 | [], _ => rfl
 | v :: r, h => by
  obtain ⟨nm, kd, co, p, q, e⟩ := h v (List.mem_cons_self ..)
  have ih := cellsV_len (vs := r) fun y hy => h y (List.mem_cons_of_mem _ hy)
  rw [cellsV_cons, List.length_append, ih, e, List.length_cons]
  show 11 + _ = _
  omega
theorem cellsV_at {vs : List Value} (h : Is11 vs) {i : Nat} (hi : i < vs.length) (j : Nat) (hj : j < 11) : (cellsV vs)[i * 11 + j]? = vs[i].cells[j]? := by
 have e : vs = vs.take i ++ vs[i] :: vs.drop (i + 1) := by rw [← List.drop_eq_getElem_cons hi, List.take_append_drop]
 have h1 : (cellsV (vs.take i)).length = i * 11 := by
  rw [cellsV_len (fun v hv => h v (List.mem_of_mem_take hv)), List.length_take]
  congr 1
  omega
 have hc : vs[i].cells.size = 11 := by
  obtain ⟨nm, kd, co, p, q, e⟩ := h vs[i] (List.getElem_mem hi)
  rw [e]
  rfl
 have hcl : vs[i].cells.toList.length = 11 := by simpa using hc
 have e2 : cellsV vs = cellsV (vs.take i) ++ (vs[i].cells.toList ++ cellsV (vs.drop (i + 1))) := by
  rw [← cellsV_cons, ← cellsV_append, ← e]
 rw [e2, List.getElem?_append_right (by omega), h1, List.getElem?_append_left (by omega)]
 rw [show i * 11 + j - i * 11 = j by omega]
 simp
section
variable {H : Type} {enc : TypeId × Value → H} {w : World} {base : Nat} {spare : Nat → Bool} {held : Bool}
end
end Go.Proofs.YtjelnmokcpoofaaGreatDoor
namespace Go.Proofs.YtjelnmokcpoofaaGreatDoor
set_option maxRecDepth 100000
open Go Go.RowKit Go.Proofs
theorem fr_load_mid {P : Program} {S : World → Value → Prop} {o : Oper} {a : Act} {W : World} {X : Prop} {c : Prop} {ic : Decidable c} (hw : c) (ty : TypeId) (x : Operand) (ho : o.op = .load ty x)
  (b k : Nat) (hx : a.eval x = .pointer (some ⟨b, k, none⟩)) (cs : List Value) (d : TypeDesc) (hc : W.rangeAt b k cs)
  (hu : P.underlying ty = some d) (hd : d.isRow = true) (hi : (P.info? ty).map (·.size) = some cs.length)
  (h : S W (.agg cs.toArray)) : if c then givesV P S ((execOp a.eval o).run P W) else X := by
 rw [if_pos hw]
 unfold execOp
 simp only [ho, hx, Instr.loadAt, Instr.sureAddr, Sem.run_bind, Sem.run_pure, Result.andThen_ok, run_loadVar_mid W b k ty cs d hc hu hd hi]
 exact h
theorem rangeAt_ext {w w' : World} {b o : Nat} {cs : List Value} (h : w.rangeAt b o cs) (e : Ext w w') : w'.rangeAt b o cs := fun j v hv => e.cell (h j v hv)
theorem OutP.slice {lo : Nat} {w : World} {s : Value} {os : List (PD × Value)} (h : OutP lo w s os) : ∃ a c, s = .slice a os.length c ∧ (os ≠ [] → ∃ g, a = some ⟨g, 0, none⟩) := by
 rcases h.row.2 with ⟨e, h0⟩ | ⟨g, cap, cur, e, -⟩
 ·have h0' : os = [] := List.eq_nil_of_length_eq_zero (by simpa using h0)
  subst h0'
  exact ⟨none, 0, e, fun h => absurd rfl h⟩
 ·exact ⟨_, cap, e, fun _ => ⟨g, rfl⟩⟩
end Go.Proofs.YtjelnmokcpoofaaGreatDoor
namespace Go.Proofs.YtjelnmokcpoofaaGreatDoor
set_option maxRecDepth 100000
open Go Go.RowKit Go.Proofs Go.Lib
theorem ratText_len {x : Rat} (h : nf x ≤ 2048) : (ratText x).length ≤ 131077 := by
 have h1 := itoa_len x.num
 have h2 := itoa_len (x.den : Int)
 have h3 : nl x.num ≤ 2048 := nT (Nat.le_max_left _ _) h
 have h4 : nl (x.den : Int) ≤ 2048 := nT (Nat.le_max_right _ _) h
 unfold ratText
 split
 ·omega
 ·rw [List.length_append, List.length_cons]
  omega
theorem okPD.co {d : PD} (h : okPD d) : 0 ≤ d.co ∧ d.co ≤ 1073741824 := by
 have := h.2.2.2
 unfold mayP at this
 simp only [Bool.and_eq_true, decide_eq_true_eq] at this
 exact ⟨this.1, this.2.1⟩
theorem okPD.nm {d : PD} (h : okPD d) : d.nm.size ≤ 32 := by
 have := h.2.2.1
 unfold nameB at this
 simp only [Bool.and_eq_true, decide_eq_true_eq] at this
 have := this.2.1
 rw [Array.length_toList] at this
 exact this
theorem dec_small {n : Nat} (h : n ≤ 1073741824) : (decDigits n).length ≤ 32 := by
 rw [decDigits_length]
 exact nDig_le (k := 31) (by omega)
theorem headB_len {d : PD} (h : okPD d) : (headB d).length ≤ 73 := by
 obtain ⟨h1, h2⟩ := h.co
 have h3 := h.nm
 have h4 := wordB_len d.kd
 have h5 : (itoa d.co).length ≤ 32 := by
  unfold itoa
  rw [if_neg (by omega)]
  exact dec_small (by omega)
 unfold headB
 simp only [List.length_append, List.length_cons, Array.length_toList]
 have : d.nm.data.size = d.nm.size := rfl
 omega
theorem tailB_len : ∀ (l : List Rat), (∀ x ∈ l, nf x ≤ 2048) → (tailB l).length ≤ l.length * 131078
 | [], _ => by simp [tailB]
 | x :: r, h => by
  have ih := tailB_len r fun y hy => h y (List.mem_cons_of_mem _ hy)
  have h1 := ratText_len (h x (List.mem_cons_self ..))
  have : tailB (x :: r) = (32 :: ratText x) ++ tailB r := rfl
  rw [this, List.length_append, List.length_cons, List.length_cons]
  omega
theorem fracsB_ok {d : PD} (h : okPD d) : ∀ x ∈ fracsB d, nf x ≤ 2048 := by
 intro x hx
 have := List.mem_of_mem_take hx
 simp only [List.mem_cons, List.not_mem_nil, or_false] at this
 rcases this with rfl | rfl
 ·exact h.1
 ·exact h.2.1
theorem fracsB_len (d : PD) : (fracsB d).length = wordN d.kd := by
 unfold fracsB
 rw [List.length_take]
 have := wordN_le d.kd
 simp only [List.length_cons, List.length_nil]
 omega
theorem lineB_len {d : PD} (h : okPD d) : (lineB d).length ≤ 262300 := by
 have h1 := headB_len h
 have h2 := tailB_len (fracsB d) (fracsB_ok h)
 rw [fracsB_len] at h2
 have := wordN_le d.kd
 unfold lineB
 simp only [List.length_append, List.length_cons, List.length_nil]
 omega
theorem textB_len : ∀ (L : List PD), (∀ d ∈ L, okPD d) → (textB L).length ≤ L.length * 262300
 | [], _ => by simp [textB]
 | d :: r, h => by
  have ih := textB_len r fun y hy => h y (List.mem_cons_of_mem _ hy)
  have h1 := lineB_len (h d (List.mem_cons_self ..))
  have : textB (d :: r) = lineB d ++ textB r := rfl
  rw [this, List.length_append, List.length_cons]
  omega
theorem PartR.pq {w : World} {d : PD} {p q : FV} (h : PartR w (.agg #[.string d.nm, .int .u8 d.kd, .bool p.b1, .slice p.a1 p.n1 p.c1, .bool p.b2, .slice p.a2 p.n2 p.c2, .bool q.b1, .slice q.a1 q.n1 q.c1, .bool q.b2, .slice q.a2 q.n2 q.c2, .int .i64 d.co]) d) : FracR w (.agg #[.bool p.b1, .slice p.a1 p.n1 p.c1, .bool p.b2, .slice p.a2 p.n2 p.c2]) d.p ∧ FracR w (.agg #[.bool q.b1, .slice q.a1 q.n1 q.c1, .bool q.b2, .slice q.a2 q.n2 q.c2]) d.q := by
 obtain ⟨_, _, _, _, _, _, _, _, _, _, _, _, _, _, _, _, e, h1, h2⟩ := h
 simp only [Value.agg.injEq, Array.mk.injEq, List.cons.injEq, and_true, Value.bool.injEq, Value.slice.injEq, true_and] at e
 obtain ⟨rfl, ⟨rfl, rfl, rfl⟩, rfl, ⟨rfl, rfl, rfl⟩, rfl, ⟨rfl, rfl, rfl⟩, rfl, rfl, rfl, rfl⟩ := e
 exact ⟨h1, h2⟩
theorem head_str {d : PD} {n : Nat} (hn : d.co = n) {S1 S2 S3 S4 : ByteArray} (h1 : S1 = d.nm ++ ⟨#[32]⟩) (h2 : S2 = S1 ++ ⟨(decDigits n).toArray⟩) (h3 : S3 = S2 ++ ⟨#[32]⟩) (h4 : S4 = S3 ++ ⟨(wordB d.kd).toArray⟩) : Lib.strCells S4 = byteCells (headB d) := by
 rw [Lib.strCells_eq]
 congr 1
 subst h4 h3 h2 h1
 unfold headB itoa
 rw [hn, if_neg (by omega)]
 simp [ByteArray.data_append]
theorem cat_cells (a b : List UInt8) : byteCells a ++ byteCells b = byteCells (a ++ b) := by simp [byteCells]
theorem sp_cells (l : List UInt8) : Lib.strCells ((⟨#[32]⟩ : ByteArray) ++ ⟨l.toArray⟩) = byteCells (32 :: l) := by
 rw [Lib.strCells_eq]
 congr 1
theorem fracs_at {d : PD} {p q : FV} {i : Nat} (hi : i < (fracsB d).length) : ∃ (x : Rat) (f : FV), (fracsB d)[i] = x ∧ (#[.bool p.b1, .slice p.a1 p.n1 p.c1, .bool p.b2, .slice p.a2 p.n2 p.c2, .bool q.b1, .slice q.a1 q.n1 q.c1, .bool q.b2, .slice q.a2 q.n2 q.c2] : Array Value).extract (i * 4) (i * 4 + (#[.bool f.b1, .slice f.a1 f.n1 f.c1, .bool f.b2, .slice f.a2 f.n2 f.c2] : Array Value).size) = #[.bool f.b1, .slice f.a1 f.n1 f.c1, .bool f.b2, .slice f.a2 f.n2 f.c2] ∧ ∀ W, (FracR W (.agg #[.bool p.b1, .slice p.a1 p.n1 p.c1, .bool p.b2, .slice p.a2 p.n2 p.c2]) d.p ∧ FracR W (.agg #[.bool q.b1, .slice q.a1 q.n1 q.c1, .bool q.b2, .slice q.a2 q.n2 q.c2]) d.q) → FracR W (.agg #[.bool f.b1, .slice f.a1 f.n1 f.c1, .bool f.b2, .slice f.a2 f.n2 f.c2]) x := by
 have h2 : i < 2 := by have := fracsB_len d; have := wordN_le d.kd; omega
 unfold fracsB at hi ⊢
 rcases (show i = 0 ∨ i = 1 by omega) with rfl | rfl
 ·exact ⟨d.p, p, by simp, rfl, fun W h => h.1⟩
 ·exact ⟨d.q, q, by simp, rfl, fun W h => h.2⟩
def TxtR (wA : World) (lo b : Nat) (os : List (PD × Value)) (t16 : Value) (wr : World) : Prop :=
 ∃ k : Nat, k ≤ os.length ∧ t16 = .int .i64 k ∧ IsBuilt lo b (byteCells (textB ((os.take k).map (·.1)))) wr ∧ Chg wA wr (bS b lo)
def InR (wB : World) (lo b : Nat) (acc : List UInt8) (fs : List Rat) (t48 : Value) (wr : World) : Prop :=
 ∃ i : Nat, i ≤ fs.length ∧ t48 = .int .i64 i ∧ IsBuilt lo b (byteCells (acc ++ tailB (fs.take i))) wr ∧ Chg wB wr (bS b lo) ∧ Keeps b wB wr
def TextQ (w : World) (es : List (PD × Value)) (e : Ending) (w' : World) : Prop :=
 e = .returned (if (textB (es.map (·.1))).length ≤ 65536 then .tuple #[.string ⟨(textB (es.map (·.1))).toArray⟩, .int .i64 0] else .tuple #[.string ⟨#[]⟩, .int .i64 4]) ∧ Ext w w'
set_option maxHeartbeats 3200000 in
theorem text_l (w : World) (g M : Nat) (es : List (PD × Value)) (h : Cat w g M es) (ht : Tab10 w) :
  Calls Tryz.prog 8 #[.pointer (some ⟨g, 0, none⟩)] w (TextQ w es) := by
 obtain ⟨w1, hw1⟩ : ∃ w1, w1 = w.alloc (.cells #[.pointer none, .slice none 0 0] 65) := ⟨_, rfl⟩
 have hE1 : Ext w w1 := by rw [hw1]; exact (xR w).al _
 have hsz : w1.heap.size = w.heap.size + 1 := by rw [hw1]; simp
 have z1 : w1.heap[w.heap.size]? = some (.cells #[.pointer none, .slice none 0 0] 65 (0, 0)) := by rw [hw1]; exact heap_alloc_new _ _
 have hG := mK (gone_l g M w h.str)
 have hA := mK (all_l w1 g M es (h.ext hE1))
 have hok := mK h.ok
 have hfew := mK h.few
 have hT := mK (fun W (e : Ext w W) => tab_ext ht e)
 replace hw1 := mK hw1
 replace hE1 := mK hE1
 replace z1 := mK z1
 replace hsz := mK hsz
 clear h ht
 go_enter Tryz.func8, Tryz.ntmps8
 have tok : Tok 0 := .mk _
 go_wp2_with (first
  | (replace tok : Tok 1 := nxT 0 tok; go_at_call 18; refine hG.out.mono ?_; rintro e w' ⟨rfl, rfl⟩)
  | (replace tok : Tok 2 := nxT 1 tok; go_at_call 10; rw [← hw1.out]; refine hA.out.mono ?_; rintro e wA ⟨v, os, rfl, hO, hmap, hxA⟩; (obtain ⟨a, c, rfl, ha⟩ := hO.slice); replace hO := mK hO; replace hmap := mK hmap; replace hxA := mK hxA; replace ha := mK ha))
 clear tok hG hA
 have hol : os.length ≤ 64 := by
  have h1 := congrArg List.length hmap.out
  rw [List.length_map, List.length_map] at h1
  have := hfew.out
  omega
 have hoks : ∀ x ∈ os, okPD x.1 := by
  intro x hx
  have h1 : x.1 ∈ os.map (·.1) := List.mem_map.2 ⟨x, hx, rfl⟩
  rw [hmap.out] at h1
  obtain ⟨z, hz, e⟩ := List.mem_map.1 h1
  rw [← e]
  exact hok.out z hz
 have hba : w.heap.size < wA.heap.size := by have := hxA.out.size; have := hsz.out; omega
 have st : TxtR wA wA.heap.size w.heap.size os (.int .i64 0) wA := ⟨0, Nat.zero_le _, rfl, built_fresh hba (hxA.out.blk z1.out), Chg.refl _ _⟩
 replace st := mK st
 replace hoks := mK hoks
 go_loopw [16] (fun t16 wr => TxtR wA wA.heap.size w.heap.size os t16 wr) (fun t16 _ => os.length - (intOf t16).toNat)
 case atStart => exact st.out
 case round =>
  clear st
  obtain ⟨k, hk, rfl, hB, hch⟩ := hrel
  obtain ⟨w2, rfl⟩ : ∃ w2 : World, w2 = wr := ⟨_, rfl⟩
  have hEw : Ext w w2 := hch.ext w (hE1.out.trans hxA.out) fun k hk hs => by
   rcases hs with rfl | hs
   ·omega
   ·omega
  by_cases hlt : k < os.length
  ·obtain ⟨gL, rfl⟩ := ha.out (by intro e; rw [e] at hlt; simp at hlt)
   obtain ⟨-, -, -, hlo, rest, -, hrow⟩ := hO.out.rowC
   have hgA : gL < wA.heap.size := (Array.getElem?_eq_some_iff.1 hrow).1
   have hrow2 := mK ((hch.block gL hgA (by rintro (rfl | h); (have := hsz.out; omega); omega)).trans hrow)
   obtain ⟨d, v, hdv⟩ : ∃ d v, os[k] = (d, v) := ⟨_, _, rfl⟩
   have hmem : (d, v) ∈ os := by rw [← hdv]; exact List.getElem_mem hlt
   have hPA := hO.out.part _ hmem
   have hP2 := hPA.near (w' := w2) fun y hy => hch.block y (hPA.span y hy).2 (by
    have h1 := (hPA.span y hy).1
    have h2 := (hPA.span y hy).2
    have := hsz.out
    rintro (rfl | h3) <;> omega)
   obtain ⟨p, q, e0, hfp, hfq⟩ := hP2.r.fv
   have e0' : v = .agg #[.string d.nm, .int .u8 d.kd, .bool p.b1, .slice p.a1 p.n1 p.c1, .bool p.b2, .slice p.a2 p.n2 p.c2, .bool q.b1, .slice q.a1 q.n1 q.c1, .bool q.b2, .slice q.a2 q.n2 q.c2, .int .i64 d.co] := e0
   subst e0'
   have hx := mK (row_extract hO.out.allV hlt rest (sub := #[.string d.nm, .int .u8 d.kd, .bool p.b1, .slice p.a1 p.n1 p.c1, .bool p.b2, .slice p.a2 p.n2 p.c2, .bool q.b1, .slice q.a1 q.n1 q.c1, .bool q.b2, .slice q.a2 q.n2 q.c2, .int .i64 d.co]) (by rw [hdv]))
   have hokd : okPD d := hoks.out _ hmem
   obtain ⟨hco0, hco1⟩ := hokd.co
   obtain ⟨n, hn⟩ : ∃ n : Nat, d.co = n := ⟨d.co.toNat, by omega⟩
   have hn1 : n ≤ 1073741824 := by omega
   obtain ⟨w3, hw3⟩ : ∃ w3, w3 = (w2.alloc (.cells #[.string ⟨#[]⟩, .int .u8 0, .bool false, .slice none 0 0, .bool false, .slice none 0 0, .bool false, .slice none 0 0, .bool false, .slice none 0 0, .int .i64 0] 56)).setRow w2.heap.size #[.string d.nm, .int .u8 d.kd, .bool p.b1, .slice p.a1 p.n1 p.c1, .bool p.b2, .slice p.a2 p.n2 p.c2, .bool q.b1, .slice q.a1 q.n1 q.c1, .bool q.b2, .slice q.a2 q.n2 q.c2, .int .i64 d.co] := ⟨_, rfl⟩
   have hE3 : Ext w2 w3 := by rw [hw3]; exact ((xR w2).al _).row (nR _) _
   have z3 := mK (show w3.heap[w2.heap.size]? = some (.cells #[.string d.nm, .int .u8 d.kd, .bool p.b1, .slice p.a1 p.n1 p.c1, .bool p.b2, .slice p.a2 p.n2 p.c2, .bool q.b1, .slice q.a1 q.n1 q.c1, .bool q.b2, .slice q.a2 q.n2 q.c2, .int .i64 d.co] 56 (0, 0)) by rw [hw3]; exact setRow_heap _ _ _ _ _ _ (heap_alloc_new _ _))
   have y3 : w3.cell? ⟨w2.heap.size, 1, none⟩ = some (.int .u8 d.kd) := row16_cells z3.out 1
   have hW := mK (fun W => word_c d.kd W)
   have hlt' : (k : Int) < (os.length : Int) := by omega
   have hN2 : ((wordN d.kd : Nat) : Int) ≤ 2 := by have := wordN_le d.kd; omega
   replace hB := mK hB
   replace hch := mK hch
   replace hEw := mK hEw
   replace hw3 := mK hw3
   replace hE3 := mK hE3
   replace hdv := mK hdv
   have hFR := mK (fun W (e : Chg wA W (bS w.heap.size wA.heap.size)) => (hPA.near (w' := W) fun y hy => e.block y (hPA.span y hy).2 (by
    have h1 := (hPA.span y hy).1
    have h2 := (hPA.span y hy).2
    have := hsz.out
    rintro (rfl | h3) <;> omega)).r.pq)
   clear hfp hfq
   replace hokd := mK hokd
   replace hn := mK hn
   clear e0 hP2 hPA hmem hco0 hco1 hrow hlo
   have tok : Tok 0 := .mk _
   go_wp2_with (first
    | (replace tok : Tok 1 := nxT 0 tok; refine wpList_load_sub (by rfl) 56 (.tmp 18) rfl gL (k * 11) ?zz 56 _ #[.string d.nm, .int .u8 d.kd, .bool p.b1, .slice p.a1 p.n1 p.c1, .bool p.b2, .slice p.a2 p.n2 p.c2, .bool q.b1, .slice q.a1 q.n1 q.c1, .bool q.b2, .slice q.a2 q.n2 q.c2, .int .i64 d.co] (0, 0) _ hrow2.out hx.out Tryz.underlying56 rfl (by kernel_rfl) ?_; (case zz => rfl))
    | (replace tok : Tok 2 := nxT 1 tok; refine wpList_store_row rfl 56 (.tmp 6) (.tmp 19) rfl w2.heap.size #[.string d.nm, .int .u8 d.kd, .bool p.b1, .slice p.a1 p.n1 p.c1, .bool p.b2, .slice p.a2 p.n2 p.c2, .bool q.b1, .slice q.a1 q.n1 q.c1, .bool q.b2, .slice q.a2 q.n2 q.c2, .int .i64 d.co] rfl rfl 56 _ (heap_alloc_new _ _) (by kernel_rfl) rfl (by kernel_rfl) ?_; rw [← hw3.out])
    | (replace tok : Tok 3 := nxT 2 tok; go_at_call 19; refine (hW.out _).mono ?_; rintro e w4 ⟨rfl, rfl⟩))
   clear tok
   have hnm := hokd.out.nm
   have hdl := dec_small hn1
   have hwl := wordB_len d.kd
   have hL1 := mK (show ¬ 9223372036854775807 < d.nm.size + 1 by omega)
   have hL2 := mK (show ¬ 9223372036854775807 < d.nm.size + 1 + (decDigits n).length by omega)
   have hL3 := mK (show ¬ 9223372036854775807 < d.nm.size + 1 + (decDigits n).length + 1 by omega)
   have hL4 := mK (show ¬ 9223372036854775807 < d.nm.size + 1 + (decDigits n).length + 1 + (wordB d.kd).length by omega)
   have hEw3 := mK (hEw.out.trans hE3.out)
   have hI := mK (fun W (e : Ext w W) => itoa_c n W (by omega) (hT.out W e))
   obtain ⟨S1, hS1⟩ : ∃ S, S = d.nm ++ ⟨#[32]⟩ := ⟨_, rfl⟩
   obtain ⟨S2, hS2⟩ : ∃ S, S = S1 ++ ⟨(decDigits n).toArray⟩ := ⟨_, rfl⟩
   obtain ⟨S3, hS3⟩ : ∃ S, S = S2 ++ ⟨#[32]⟩ := ⟨_, rfl⟩
   obtain ⟨S4, hS4⟩ : ∃ S, S = S3 ++ ⟨(wordB d.kd).toArray⟩ := ⟨_, rfl⟩
   have hz1 := mK (show S1.size = d.nm.size + 1 by rw [hS1, ByteArray.size_append]; rfl)
   have hz2 := mK (show S2.size = d.nm.size + 1 + (decDigits n).length by rw [hS2, ByteArray.size_append, hz1.out]; exact congrArg _ List.size_toArray)
   have hz3 := mK (show S3.size = d.nm.size + 1 + (decDigits n).length + 1 by rw [hS3, ByteArray.size_append, hz2.out]; rfl)
   replace hS1 := mK hS1
   replace hS2 := mK hS2
   replace hS3 := mK hS3
   replace hS4 := mK hS4
   clear hnm hdl hwl
   apply region_ext [.val (.pointer (some ⟨w2.heap.size, 0, none⟩)), .val (.string d.nm), .val (.string S1), .val (.pointer (some ⟨w2.heap.size, 10, none⟩)), .val (.int .i64 n), .val (.string ⟨(decDigits n).toArray⟩), .val (.string S2), .val (.string S3), .val (.string ⟨(wordB d.kd).toArray⟩), .val (.string S4)] (by kernel_rfl) (stable_vals _ (stable_vals _ (stable_vals _ (stable_vals _ (stable_vals _ (stable_vals _ (stable_vals _ (stable_vals _ (stable_vals _ (stable_vals _ trivial))))))))))
   refine ⟨fun W hW _ => by go_simp; first | exact ⟨xR _, rfl⟩ | exact xR _, ?_⟩
   refine ⟨fun W hW _ => by have := row16_cells (hW.blk z3.out) 0; go_simp; first | exact ⟨xR _, rfl⟩ | exact xR _, ?_⟩
   refine ⟨fun W hW _ => ?s1, ?_⟩
   case s1 =>
    go_simp
    rw [if_neg hL1.out, ← hS1.out]
    exact ⟨xR _, rfl⟩
   refine ⟨fun W hW _ => by go_simp; first | exact ⟨xR _, rfl⟩ | exact xR _, ?_⟩
   refine ⟨fun W hW _ => ?s4, ?_⟩
   case s4 =>
    have hc := row16_cells (hW.blk z3.out) 10
    replace hc : W.cell? ⟨w2.heap.size, 10, none⟩ = some (.int .i64 n) := by rw [hc, ← hn.out]; rfl
    go_simp
    first | exact ⟨xR _, rfl⟩ | exact xR _
   refine ⟨fun W hW _ => ?s5, ?_⟩
   case s5 =>
    go_simp
    refine (hI.out W (hEw3.out.trans hW)).mono ?_
    rintro e w' ⟨rfl, h1⟩
    exact ⟨rfl, h1⟩
   refine ⟨fun W hW _ => ?s6, ?_⟩
   case s6 =>
    go_simp
    rw [hz1.out, if_neg hL2.out, ← hS2.out]
    exact ⟨xR _, rfl⟩
   refine ⟨fun W hW _ => ?s7, ?_⟩
   case s7 =>
    go_simp
    rw [hz2.out, if_neg hL3.out, ← hS3.out]
    exact ⟨xR _, rfl⟩
   refine ⟨fun W hW _ => by go_simp; first | exact ⟨xR _, rfl⟩ | exact xR _, ?_⟩
   refine ⟨fun W hW _ => ?s9, fun W hW _ => ?fin⟩
   case s9 =>
    go_simp
    rw [hz3.out, if_neg hL4.out, ← hS4.out]
    exact ⟨xR _, rfl⟩
   case fin =>
    have hTl := textB_len ((os.take k).map (·.1)) (by intro y hy; obtain ⟨z, hz, rfl⟩ := List.mem_map.1 hy; exact hoks.out z (List.mem_of_mem_take hz))
    rw [List.length_map, List.length_take] at hTl
    generalize hTT : textB ((os.take k).map (·.1)) = TT at *
    have hTT64 : TT.length ≤ 64 * 262300 := nT hTl (Nat.mul_le_mul_right _ (by omega))
    have hhl := headB_len hokd.out
    have hS4c := head_str hn.out hS1.out hS2.out hS3.out hS4.out
    have hS4z : S4.size = (headB d).length := by
     have := congrArg List.length hS4c
     rw [Lib.strCells_length, byteCells_length] at this
     exact this
    have hcAW : Chg wA W (bS w.heap.size wA.heap.size) := hch.out.trans (Chg.of_ext (hE3.out.trans hW) _)
    have BW := mK (bwrite2 wA.heap.size w.heap.size (byteCells TT) S4 W (hB.out.ext (hE3.out.trans hW)) (by rw [byteCells_length, hS4z]; omega) (by have := hcAW.size; omega))
    have hzW := mK (hW.blk z3.out)
    have hbw2 := mK (show w2.heap.size ≠ w.heap.size by have := hch.out.size; omega)
    replace hcAW := mK hcAW
    replace hS4c := mK hS4c
    replace hTT := mK hTT
    replace hTT64 := mK hTT64
    replace hhl := mK hhl
    clear hTl hW hS4z
    go_simp
    have tok : Tok 20 := .mk _
    go_wp2_with (first
     | (replace tok : Tok 21 := nxT 20 tok; go_at_call 20; refine BW.out.mono ?_; rintro e w5 ⟨rfl, hB5, hC5, hK5⟩; (have z5 := mK (hK5 _ _ _ _ hbw2.out (by decide) hzW.out)); replace hB5 := mK hB5; replace hC5 := mK (hcAW.out.trans hC5); clear hK5)
     | (replace tok : Tok 22 := nxT 21 tok; refine wpList_load_sub (by rfl) 52 (.tmp 39) rfl w2.heap.size 2 ?zya 56 _ #[.bool p.b1, .slice p.a1 p.n1 p.c1, .bool p.b2, .slice p.a2 p.n2 p.c2] (0, 0) _ z5.out ?zyb Tryz.underlying52 rfl (by kernel_rfl) ?_; (case zya => rfl); (case zyb => rfl))
     | (replace tok : Tok 23 := nxT 22 tok; refine wpList_load_sub (by rfl) 52 (.tmp 42) rfl w2.heap.size 6 ?zyc 56 _ #[.bool q.b1, .slice q.a1 q.n1 q.c1, .bool q.b2, .slice q.a2 q.n2 q.c2] (0, 0) _ z5.out ?zyd Tryz.underlying52 rfl (by kernel_rfl) ?_; (case zyc => rfl); (case zyd => rfl)))
    clear tok
    obtain ⟨w6, hw6⟩ : ∃ w6, w6 = w5.alloc (.cells #[.bool p.b1, .slice p.a1 p.n1 p.c1, .bool p.b2, .slice p.a2 p.n2 p.c2, .bool q.b1, .slice q.a1 q.n1 q.c1, .bool q.b2, .slice q.a2 q.n2 q.c2] 52) := ⟨_, rfl⟩
    rw [← hw6]
    have hx6 : Ext w5 w6 := by rw [hw6]; exact (xR _).al _
    have z6 := mK (show w6.heap[w5.heap.size]? = some (.cells #[.bool p.b1, .slice p.a1 p.n1 p.c1, .bool p.b2, .slice p.a2 p.n2 p.c2, .bool q.b1, .slice q.a1 q.n1 q.c1, .bool q.b2, .slice q.a2 q.n2 q.c2] 52 (0, 0)) by rw [hw6]; exact heap_alloc_new _ _)
    have hC6 := mK (hC5.out.trans (Chg.of_ext hx6 _))
    have hb5 := mK (show w5.heap.size ≠ w.heap.size by have := hC5.out.size; omega)
    have hB6 := hB5.out.ext hx6
    rw [hS4c.out, cat_cells] at hB6
    obtain ⟨acc, hacc⟩ : ∃ acc, acc = TT ++ headB d := ⟨_, rfl⟩
    rw [← hacc] at hB6
    have hal : acc.length ≤ 64 * 262300 + 73 := by rw [hacc, List.length_append]; have := hTT64.out; have := hhl.out; omega
    have hfl := mK (fracsB_len d)
    have hfo := mK (fracsB_ok hokd.out)
    have hfa := mK (fun (i : Nat) (hi : i < (fracsB d).length) => fracs_at (p := p) (q := q) hi)
    replace hw6 := mK hw6
    replace hacc := mK hacc
    replace hal := mK hal
    have st : InR w6 wA.heap.size w.heap.size acc (fracsB d) (.int .i64 0) w6 := ⟨0, Nat.zero_le _, rfl, by simpa [tailB] using hB6, Chg.refl _ _, Keeps.ext (xR _)⟩
    replace st := mK st
    clear hx6 hB6 BW hB5 hC5 z5 hzW
    go_loopw [48] (fun t48 wr => InR w6 wA.heap.size w.heap.size acc (fracsB d) t48 wr) (fun t48 _ => wordN d.kd - (intOf t48).toNat)
    case atStart => exact st.out
    case round =>
     clear st
     obtain ⟨i, hi, rfl, hBi, hCi, hKi⟩ := hrel
     obtain ⟨w7, rfl⟩ : ∃ w7 : World, w7 = wr := ⟨_, rfl⟩
     rw [hfl.out] at hi
     by_cases hil : i < wordN d.kd
     ·obtain ⟨x, f, hxi, hex, hff⟩ := hfa.out i (by rw [hfl.out]; exact hil)
      have hC7 := hC6.out.trans hCi
      have hEw7 : Ext w w7 := hC7.ext w (hE1.out.trans hxA.out) fun k hk hs => by rcases hs with rfl | hs <;> omega
      have hz7 := mK (hKi _ _ _ _ hb5.out (by decide) z6.out)
      obtain ⟨w8, hw8⟩ : ∃ w8, w8 = (w7.alloc (.cells #[.bool false, .slice none 0 0, .bool false, .slice none 0 0] 52)).setRow w7.heap.size #[.bool f.b1, .slice f.a1 f.n1 f.c1, .bool f.b2, .slice f.a2 f.n2 f.c2] := ⟨_, rfl⟩
      have hE8 : Ext w7 w8 := by rw [hw8]; exact ((xR w7).al _).row (nR _) _
      have z8 := mK (show w8.heap[w7.heap.size]? = some (.cells #[.bool f.b1, .slice f.a1 f.n1 f.c1, .bool f.b2, .slice f.a2 f.n2 f.c2] 52 (0, 0)) by rw [hw8]; exact setRow_heap _ _ _ _ _ _ (heap_alloc_new _ _))
      have hxm : x ∈ fracsB d := by rw [← hxi]; exact List.getElem_mem _
      have hxn := hfo.out x hxm
      have hDg := mK (ratDigits_c (.agg #[.bool f.b1, .slice f.a1 f.n1 f.c1, .bool f.b2, .slice f.a2 f.n2 f.c2]) x w8 (nT hxn (by decide)) ((hff w7 (hFR.out w7 hC7)).ext hE8) (hT.out _ (hEw7.trans hE8)))
      have hrl := ratText_len hxn
      have hLx := mK (show ¬ 9223372036854775807 < 1 + (ratText x).length by omega)
      have htl := tailB_len ((fracsB d).take i) fun y hy => hfo.out y (List.mem_of_mem_take hy)
      have htk : tailB ((fracsB d).take (i + 1)) = tailB ((fracsB d).take i) ++ (32 :: ratText x) := by
       rw [List.take_succ_eq_append_getElem (by rw [hfl.out]; exact hil), hxi]
       simp [tailB]
      have htl2 : (tailB ((fracsB d).take i)).length ≤ 2 * 131078 := nT htl (Nat.mul_le_mul_right _ (by rw [List.length_take]; have := wordN_le d.kd; omega))
      have hil' : (i : Int) < ((wordN d.kd : Nat) : Int) := by omega
      have hsA : wA.heap.size ≤ w8.heap.size := nT hC7.size hE8.size
      have BX := mK (fun W (e : Ext w8 W) => bwrite2 wA.heap.size w.heap.size (byteCells (acc ++ tailB ((fracsB d).take i))) (⟨#[32]⟩ ++ ⟨(ratText x).toArray⟩) W (hBi.ext (hE8.trans e)) (by rw [byteCells_length, List.length_append, ByteArray.size_append]; show _ + _ + (1 + (ratText x).toArray.size) ≤ _; rw [List.size_toArray]; have := hal.out; omega) (nT hsA e.size))
      replace hex := mK hex
      replace hBi := mK hBi
      replace hCi := mK hCi
      replace hKi := mK hKi
      replace hw8 := mK hw8
      replace hE8 := mK hE8
      replace htk := mK htk
      clear hff hxi hxm hxn hrl htl htl2 hC7 hEw7 hsA
      have tok : Tok 30 := .mk _
      go_wp2_with (first
       | (replace tok : Tok 31 := nxT 30 tok; refine wpList_load_sub (by rfl) 52 (.tmp 50) rfl w5.heap.size (i * 4) ?zxa 52 _ #[.bool f.b1, .slice f.a1 f.n1 f.c1, .bool f.b2, .slice f.a2 f.n2 f.c2] (0, 0) _ hz7.out hex.out Tryz.underlying52 rfl (by kernel_rfl) ?_; (case zxa => rfl))
       | (replace tok : Tok 32 := nxT 31 tok; refine wpList_store_row rfl 52 (.tmp 10) (.tmp 51) rfl w7.heap.size #[.bool f.b1, .slice f.a1 f.n1 f.c1, .bool f.b2, .slice f.a2 f.n2 f.c2] rfl rfl 52 _ (heap_alloc_new _ _) (by kernel_rfl) rfl (by kernel_rfl) ?_; rw [← hw8.out])
       | (replace tok : Tok 33 := nxT 32 tok; refine wpList_load_row (by rfl) 52 (.tmp 10) rfl w7.heap.size rfl 52 #[.bool f.b1, .slice f.a1 f.n1 f.c1, .bool f.b2, .slice f.a2 f.n2 f.c2] (0, 0) _ z8.out Tryz.underlying52 rfl (by kernel_rfl) ?_)
       | (replace tok : Tok 34 := nxT 33 tok; go_at_call 22; refine hDg.out.mono ?_; rintro e w9 ⟨rfl, hx9⟩; (have hLx2 := hLx.out); (have BY := mK (BX.out w9 hx9)); replace hx9 := mK hx9)
       | (replace tok : Tok 35 := nxT 34 tok; go_at_call 20; refine BY.out.mono ?_; rintro e w10 ⟨rfl, hB10, hC10, hK10⟩; replace hB10 := mK hB10; replace hC10 := mK hC10; replace hK10 := mK hK10))
      refine ⟨⟨i + 1, by rw [hfl.out]; omega, by go_num, ?_, hCi.out.trans ((Chg.of_ext (hE8.out.trans hx9.out) _).trans hC10.out), hKi.out.trans ((Keeps.ext (hE8.out.trans hx9.out)).trans hK10.out)⟩, by simp [intOf]; omega⟩
      have hb := hB10.out
      rw [sp_cells, cat_cells, List.append_assoc, ← htk.out] at hb
      exact hb
     ·have hin : i = (fracsB d).length := by rw [hfl.out]; omega
      subst hin
      rw [List.take_length] at hBi
      have hC7 := hC6.out.trans hCi
      have htl := tailB_len (fracsB d) hfo.out
      rw [hfl.out] at htl
      have htl2 : (tailB (fracsB d)).length ≤ 2 * 131078 := nT htl (Nat.mul_le_mul_right _ (wordN_le d.kd))
      have BN := mK (bwrite2 wA.heap.size w.heap.size (byteCells (acc ++ tailB (fracsB d))) ⟨#[10]⟩ w7 hBi (by rw [byteCells_length, List.length_append]; show _ + _ + 1 ≤ _; have := hal.out; omega) hC7.size)
      have hii : ((fracsB d).length : Int) = ((wordN d.kd : Nat) : Int) := by rw [hfl.out]
      replace hii := mK hii
      replace hC7 := mK hC7
      rw [hfl.out]
      clear hBi hCi hKi hi hil htl htl2
      have tok : Tok 40 := .mk _
      go_wp2_with (replace tok : Tok 41 := nxT 40 tok; go_at_call 20; refine BN.out.mono ?_; rintro e w8 ⟨rfl, hB8, hC8, hK8⟩; replace hB8 := mK hB8; replace hC8 := mK (hC7.out.trans hC8); clear hK8)
      refine ⟨⟨k + 1, by omega, by go_num, ?_, hC8.out⟩, by simp [intOf]; omega⟩
      have hb := hB8.out
      rw [show Lib.strCells ⟨#[10]⟩ = byteCells [10] by rw [Lib.strCells_eq], cat_cells, hacc.out] at hb
      have he : textB ((os.take (k + 1)).map (·.1)) = TT ++ headB d ++ tailB (fracsB d) ++ [10] := by
       rw [List.take_succ_eq_append_getElem hlt, hdv.out, List.map_append]
       have : textB ((os.take k).map (·.1) ++ [d]) = textB ((os.take k).map (·.1)) ++ lineB d := by simp [textB]
       show textB ((os.take k).map (·.1) ++ [d]) = _
       rw [this, hTT.out]
       simp [lineB]
      rw [he]
      exact hb
  ·have hkn : k = os.length := by omega
   subst hkn
   rw [List.take_length, hmap.out] at hB
   have BL := mK (Tryz.Builder_Len w.heap.size w.heap.size _ w2 hB.is)
   have BS := mK (Tryz.Builder_String_any w.heap.size w.heap.size (textB (es.map (·.1))) w2 hB.is hEw.size)
   generalize hTT : textB (es.map (·.1)) = TT at *
   have hbl : (byteCells TT).length = TT.length := byteCells_length _
   rw [hbl] at BL
   replace hEw := mK hEw
   replace hTT := mK hTT
   clear hbl hB hch hk
   by_cases hbig : TT.length ≤ 65536
   ·have hb1 : ¬ ((65536 : Int) < (TT.length : Int)) := by omega
    have hqq := mK (fun w' (e : Ext w w') => (show TextQ w es (.returned (.tuple #[.string ⟨TT.toArray⟩, .int .i64 0])) w' from ⟨by rw [hTT.out, if_pos hbig], e⟩))
    clear hbig
    have tok : Tok 50 := .mk _
    go_wp2_with (first
     | (replace tok : Tok 51 := nxT 50 tok; go_at_call 23; refine BL.out.mono ?_; rintro e w8 ⟨rfl, rfl⟩)
     | (replace tok : Tok 52 := nxT 51 tok; go_at_call 24; refine BS.out.mono ?_; rintro e w9 ⟨rfl, hx9⟩; replace hx9 := mK hx9))
    go_ret2
    exact hqq.out _ (Below.trans hEw.out hx9.out)
   ·have hb1 : ((65536 : Int) < (TT.length : Int)) := by omega
    have hqq := mK (fun w' (e : Ext w w') => (show TextQ w es (.returned (.tuple #[.string ⟨#[]⟩, .int .i64 4])) w' from ⟨by rw [hTT.out, if_neg hbig], e⟩))
    clear hbig
    have tok : Tok 50 := .mk _
    go_wp2_with (replace tok : Tok 51 := nxT 50 tok; go_at_call 23; refine BL.out.mono ?_; rintro e w8 ⟨rfl, rfl⟩)
    go_ret2
    exact hqq.out _ hEw.out
end Go.Proofs.YtjelnmokcpoofaaGreatDoor
namespace Go.Proofs.YtjelnmokcpoofaaGreatDoor
set_option maxRecDepth 100000
open Go Go.RowKit Go.Proofs
theorem IntR.anyR {w : World} {b : Bool} {a : Option Addr} {n c : Nat} {X : Int} (h : IntR w (.agg #[.bool b, .slice a n c]) X) : b = decide (X < 0) ∧ n = (lim X.natAbs).length ∧ AnyR w (.agg #[.bool b, .slice a (lim X.natAbs).length c]) b (lim X.natAbs) := by
 obtain ⟨s, e, a', c', rfl, k1, k2⟩ := h
 simp only [Value.agg.injEq, Array.mk.injEq, List.cons.injEq, and_true, Value.bool.injEq, Value.slice.injEq] at e
 obtain ⟨rfl, rfl, rfl, rfl⟩ := e
 exact ⟨rfl, rfl, _, _, rfl, lim_ok _, k1, k2⟩
theorem FracR.rawL {w : World} {b1 : Bool} {a1 : Option Addr} {n1 c1 : Nat} {b2 : Bool} {a2 : Option Addr} {n2 c2 : Nat} {q : Rat} (h : FracR w (.agg #[.bool b1, .slice a1 n1 c1, .bool b2, .slice a2 n2 c2]) q) (hq : nf q ≤ 2048) :
  b1 = decide (q.num < 0) ∧ n1 = (lim q.num.natAbs).length ∧ b2 = decide ((q.den : Int) < 0) ∧ n2 = (lim (q.den : Int).natAbs).length ∧ RawL w b1 a1 (lim q.num.natAbs) c1 b2 a2 (lim (q.den : Int).natAbs) c2 := by
 obtain ⟨b1', a1', n1', c1', b2', a2', n2', c2', e, k1, k2⟩ := h
 simp only [Value.agg.injEq, Array.mk.injEq, List.cons.injEq, and_true, Value.bool.injEq, Value.slice.injEq] at e
 obtain ⟨rfl, ⟨rfl, rfl, rfl⟩, rfl, rfl, rfl, rfl⟩ := e
 obtain ⟨e1, e2, r1⟩ := k1.anyR
 obtain ⟨e3, e4, r2⟩ := k2.anyR
 have m1 : (lim q.num.natAbs).length ≤ 2048 := nT (Nat.le_max_left _ _) hq
 have m2 : (lim (q.den : Int).natAbs).length ≤ 2048 := nT (Nat.le_max_right _ _) hq
 exact ⟨e1, e2, e3, e4, nT m1 (by decide), nT m2 (by decide), r1, r2⟩
theorem samePart_same (v v' : Value) (d : PD) (w : World) (h : PartR w v d) (h' : PartR w v' d) (hp : nf d.p ≤ 2048) (hq : nf d.q ≤ 2048) :
  Calls Tryz.prog 25 #[v, v'] w fun e w' => e = .returned (.bool true) ∧ Ext w w' := by
 obtain ⟨b1, a1, n1, c1, b2, a2, n2, c2, b3, a3, n3, c3, b4, a4, n4, c4, rfl, h1, h2⟩ := h
 obtain ⟨b1', a1', n1', c1', b2', a2', n2', c2', b3', a3', n3', c3', b4', a4', n4', c4', rfl, h1', h2'⟩ := h'
 obtain ⟨rfl, rfl, rfl, rfl, r1⟩ := h1.rawL hp
 obtain ⟨rfl, rfl, rfl, rfl, r2⟩ := h2.rawL hq
 obtain ⟨rfl, rfl, rfl, rfl, r1'⟩ := h1'.rawL hp
 obtain ⟨rfl, rfl, rfl, rfl, r2'⟩ := h2'.rawL hq
 refine (samePart_l d.nm d.nm d.kd d.kd d.co d.co _ a1 _ c1 _ a2 _ c2 _ a3 _ c3 _ a4 _ c4 _ a1' _ c1' _ a2' _ c2' _ a3' _ c3' _ a4' _ c4' w r1 r2 r1' r2').mono ?_
 rintro e w' ⟨rfl, hx⟩
 refine ⟨?_, hx⟩
 simp [eqI_self]
theorem cellsP_V (os : List (PD × Value)) : cellsP os = cellsV (os.map (·.2)) := by
 unfold cellsP cellsV
 rw [List.flatMap_map]
theorem row_of_owns11 {w : World} {base E n : Nat} {v : Value} {xs : List Value} (h : w.ownsRow base E 11 v n xs) : ∃ a c, v = .slice a n c ∧ n ≤ c ∧ Row w a xs := by
 obtain ⟨h1, h2⟩ := h
 rcases h2 with ⟨rfl, rfl⟩ | ⟨g, cap, cur, rfl, a2, a3, a4, a5, a6, a7⟩
 ·have : xs = [] := List.eq_nil_of_length_eq_zero (by simpa using h1)
  subst this
  exact ⟨none, 0, rfl, nR _, row_nil w⟩
 ·refine ⟨_, _, rfl, a4, g, 0, fun _ => rfl, fun j hj => ?_⟩
  have hle : n * 11 ≤ cur.size := by rw [a6]; exact Nat.mul_le_mul_right _ a4
  have hj2 : j < cur.size := by omega
  have hj3 : j < n * 11 := by omega
  have e : xs.getD j undef = cur[j] := by
   subst a7
   simp [List.getD_eq_getElem?_getD, hj3, hj2]
  rw [e]
  simp [World.cell?, a3, hj2]
structure RowL (w : World) (s : Value) (os : List (PD × Value)) : Prop where
 at' : ∃ a c, s = .slice a os.length c ∧ os.length ≤ c ∧ Row w a (cellsV (os.map (·.2)))
 part : ∀ x ∈ os, PartR w x.2 x.1
theorem RowL.ext {w w' : World} {s : Value} {os : List (PD × Value)} (h : RowL w s os) (e : Ext w w') : RowL w' s os := by
 obtain ⟨⟨a, c, h1, h2, h3⟩, hp⟩ := h
 exact ⟨⟨a, c, h1, h2, h3.ext e⟩, fun x hx => (hp x hx).ext e⟩
theorem RowL.is {w : World} {s : Value} {os : List (PD × Value)} (h : RowL w s os) : Is11 (os.map (·.2)) := fun v hv => by
 obtain ⟨x, hx, rfl⟩ := List.mem_map.1 hv
 obtain ⟨p, q, e, -, -⟩ := (h.part x hx).fv
 exact ⟨_, _, _, p, q, e⟩
theorem rowL_of_owns {w : World} {base : Nat} {s : Value} {os : List (PD × Value)} (h : w.ownsRow base 56 11 s os.length (cellsP os)) (hp : ∀ x ∈ os, PartR w x.2 x.1) : RowL w s os := by
 obtain ⟨a, c, h1, h2, h3⟩ := row_of_owns11 h
 rw [cellsP_V] at h3
 exact ⟨⟨a, c, h1, h2, h3⟩, hp⟩
theorem OutP.rowL {lo : Nat} {w : World} {s : Value} {os : List (PD × Value)} (h : OutP lo w s os) : RowL w s os := rowL_of_owns h.row fun x hx => (h.part x hx).r
theorem row_range7 {w : World} {a : Option Addr} {vs : List Value} (h : Row w a (cellsV vs)) (his : Is11 vs) {k : Nat} (hk : k < vs.length) : ∃ b o, a = some ⟨b, o, none⟩ ∧ w.rangeAt b (o + k * 11) vs[k].cells.toList := by
 obtain ⟨b, o, ha, hr⟩ := h
 have hl := cellsV_len his
 have hne : cellsV vs ≠ [] := by intro e; rw [e, List.length_nil] at hl; omega
 refine ⟨b, o, ha hne, fun j v hv => ?_⟩
 have hcl : vs[k].cells.toList.length = 11 := by
  obtain ⟨nm, kd, co, p, q, e⟩ := his vs[k] (List.getElem_mem hk)
  rw [e]
  rfl
 have hj : j < 11 := by have := (List.getElem?_eq_some_iff.1 hv).1; omega
 have h1 := hr (k * 11 + j) (by omega)
 have h2 := cellsV_at his hk j hj
 rw [List.getD_eq_getElem?_getD, h2] at h1
 have h3 : vs[k].cells[j]? = some v := by simpa using hv
 rw [h3] at h1
 rw [Nat.add_assoc]
 exact h1
theorem RowL.get {w : World} {s : Value} {os : List (PD × Value)} (h : RowL w s os) {k : Nat} (hk : k < os.length) : ∃ b o c, s = .slice (some ⟨b, o, none⟩) os.length c ∧ os.length ≤ c ∧ ∃ p q : FV, os[k].2 = .agg #[.string os[k].1.nm, .int .u8 os[k].1.kd, .bool p.b1, .slice p.a1 p.n1 p.c1, .bool p.b2, .slice p.a2 p.n2 p.c2, .bool q.b1, .slice q.a1 q.n1 q.c1, .bool q.b2, .slice q.a2 q.n2 q.c2, .int .i64 os[k].1.co] ∧ w.rangeAt b (o + k * 11) [.string os[k].1.nm, .int .u8 os[k].1.kd, .bool p.b1, .slice p.a1 p.n1 p.c1, .bool p.b2, .slice p.a2 p.n2 p.c2, .bool q.b1, .slice q.a1 q.n1 q.c1, .bool q.b2, .slice q.a2 q.n2 q.c2, .int .i64 os[k].1.co] ∧ PartR w (.agg #[.string os[k].1.nm, .int .u8 os[k].1.kd, .bool p.b1, .slice p.a1 p.n1 p.c1, .bool p.b2, .slice p.a2 p.n2 p.c2, .bool q.b1, .slice q.a1 q.n1 q.c1, .bool q.b2, .slice q.a2 q.n2 q.c2, .int .i64 os[k].1.co]) os[k].1 := by
 obtain ⟨a, c, rfl, hc, hr⟩ := h.at'
 obtain ⟨b, o, rfl, h2⟩ := row_range7 hr h.is (k := k) (by simpa using hk)
 have hp := h.part _ (List.getElem_mem hk)
 obtain ⟨p, q, e, -, -⟩ := hp.fv
 rw [e] at hp
 refine ⟨b, o, c, rfl, hc, p, q, e, ?_, hp⟩
 have e2 : (os.map (·.2))[k]'(by simpa using hk) = .agg #[.string os[k].1.nm, .int .u8 os[k].1.kd, .bool p.b1, .slice p.a1 p.n1 p.c1, .bool p.b2, .slice p.a2 p.n2 p.c2, .bool q.b1, .slice q.a1 q.n1 q.c1, .bool q.b2, .slice q.a2 q.n2 q.c2, .int .i64 os[k].1.co] := by simpa using e
 rw [e2] at h2
 exact h2
set_option maxHeartbeats 3200000 in
theorem sameParts_c (s s' : Value) (os os' : List (PD × Value)) (w : World) (h : RowL w s os) (h' : RowL w s' os') (he : os.map (·.1) = os'.map (·.1)) (hn : ∀ x ∈ os, nf x.1.p ≤ 2048 ∧ nf x.1.q ≤ 2048) (hl : os.length ≤ 1099511627776) :
  Calls Tryz.prog 9 #[s, s'] w fun e w' => e = .returned (.bool true) ∧ Ext w w' := by
 have hle : os'.length = os.length := by have := congrArg List.length he; simpa using this.symm
 obtain ⟨a, c, e1, hc, -⟩ := h.at'
 obtain ⟨a', c', e1', hc', -⟩ := h'.at'
 rw [hle] at e1' hc'
 have H := mK (fun W (e : Ext w W) => h.ext e)
 have H' := mK (fun W (e : Ext w W) => h'.ext e)
 have he := mK he
 have hn := mK hn
 replace hle := mK hle
 subst e1
 subst e1'
 clear h h'
 go_enter Tryz.func9, Tryz.ntmps9
 go_wp2_with fail
 have st : ∃ k : Nat, k ≤ os.length ∧ Value.int .i64 0 = .int .i64 k ∧ Ext w w := ⟨0, Nat.zero_le _, rfl, xR _⟩
 replace st := mK st
 obtain ⟨w0, hw0⟩ : ∃ w0, w0 = w := ⟨_, rfl⟩
 rw [← hw0] at H H'
 have st : ∃ k : Nat, k ≤ os.length ∧ Value.int .i64 0 = .int .i64 k ∧ Ext w0 w := ⟨0, Nat.zero_le _, rfl, by rw [hw0]; exact xR _⟩
 replace st := mK st
 have hw0 := mK hw0
 go_loopw [5] (fun t5 wr => ∃ k : Nat, k ≤ os.length ∧ t5 = .int .i64 k ∧ Ext w0 wr) (fun t5 _ => os.length - (intOf t5).toNat)
 case atStart => exact st.out
 case round =>
  clear st
  obtain ⟨k, hk, rfl, hEr⟩ := hrel
  obtain ⟨w2, rfl⟩ : ∃ w2 : World, w2 = wr := ⟨_, rfl⟩
  by_cases hlt : k < os.length
  ·have hlt' : (k : Int) < (os.length : Int) := by omega
   have hlt2 : k < os'.length := by rw [hle.out]; exact hlt
   obtain ⟨b, o, c1, x1, -, p, q, -, hr, hp⟩ := (H.out w2 hEr).get hlt
   obtain ⟨b', o', c1', x1', -, p', q', -, hr', hp'⟩ := (H'.out w2 hEr).get hlt2
   rw [hle.out] at x1'
   simp only [Value.slice.injEq, true_and] at x1 x1'
   obtain ⟨rfl, rfl⟩ := x1
   obtain ⟨rfl, rfl⟩ := x1'
   have hd : os'[k].1 = os[k].1 := by
    have h1 : (os'.map (·.1))[k]'(by simpa using hlt2) = (os.map (·.1))[k]'(by simpa using hlt) := by simp only [he.out]
    simpa using h1
   rw [hd] at hr' hp'
   have hnk := hn.out _ (List.getElem_mem hlt)
   generalize os[k].1 = d at *
   have HR := mK (fun W (e : Ext w2 W) => rangeAt_ext hr e)
   have HR' := mK (fun W (e : Ext w2 W) => rangeAt_ext hr' e)
   have K := mK (fun W (e : Ext w2 W) => samePart_same _ _ d W (hp.ext e) (hp'.ext e) hnk.1 hnk.2)
   replace hEr := mK hEr
   clear hr hr' hp hp' hnk hd hlt2
   go_wp2_with fail
   apply region_ext [.val (.slice (some ⟨b, o, none⟩) os.length c), .val (.int .i64 k), .val (.pointer (some ⟨b, o + k * 11, none⟩)), .val (.agg #[.string d.nm, .int .u8 d.kd, .bool p.b1, .slice p.a1 p.n1 p.c1, .bool p.b2, .slice p.a2 p.n2 p.c2, .bool q.b1, .slice q.a1 q.n1 q.c1, .bool q.b2, .slice q.a2 q.n2 q.c2, .int .i64 d.co]), .val (.slice (some ⟨b', o', none⟩) os.length c'), .val (.int .i64 k), .val (.pointer (some ⟨b', o' + k * 11, none⟩)), .val (.agg #[.string d.nm, .int .u8 d.kd, .bool p'.b1, .slice p'.a1 p'.n1 p'.c1, .bool p'.b2, .slice p'.a2 p'.n2 p'.c2, .bool q'.b1, .slice q'.a1 q'.n1 q'.c1, .bool q'.b2, .slice q'.a2 q'.n2 q'.c2, .int .i64 d.co]), .val (.bool true), .val (.bool false)] (by kernel_rfl) (stable_vals _ (stable_vals _ (stable_vals _ (stable_vals _ (stable_vals _ (stable_vals _ (stable_vals _ (stable_vals _ (stable_vals _ (stable_vals _ trivial))))))))))
   iterate 3 (refine ⟨fun W hW _ => by go_simp; first | exact ⟨xR _, rfl⟩ | exact xR _, ?_⟩)
   refine ⟨?l1, ?_⟩
   case l1 =>
    intro W hW hF
    have hr := HR.out W hW
    with_reducible refine fr_load_mid ?zhw 56 (.tmp 19) ?zho b (o + k * 11) ?zhx [.string d.nm, .int .u8 d.kd, .bool p.b1, .slice p.a1 p.n1 p.c1, .bool p.b2, .slice p.a2 p.n2 p.c2, .bool q.b1, .slice q.a1 q.n1 q.c1, .bool q.b2, .slice q.a2 q.n2 q.c2, .int .i64 d.co] _ hr Tryz.underlying56 ?zhd ?zhi ?zh
    case zhw => kernel_rfl
    case zho => rfl
    case zhx => kernel_rfl
    case zhd => rfl
    case zhi => kernel_rfl
    case zh => exact ⟨xR _, rfl⟩
   iterate 3 (refine ⟨fun W hW _ => by go_simp; first | exact ⟨xR _, rfl⟩ | exact xR _, ?_⟩)
   refine ⟨?l2, ?_⟩
   case l2 =>
    intro W hW hF
    have hr := HR'.out W hW
    with_reducible refine fr_load_mid ?zhw 56 (.tmp 23) ?zho b' (o' + k * 11) ?zhx [.string d.nm, .int .u8 d.kd, .bool p'.b1, .slice p'.a1 p'.n1 p'.c1, .bool p'.b2, .slice p'.a2 p'.n2 p'.c2, .bool q'.b1, .slice q'.a1 q'.n1 q'.c1, .bool q'.b2, .slice q'.a2 q'.n2 q'.c2, .int .i64 d.co] _ hr Tryz.underlying56 ?zhd ?zhi ?zh
    case zhw => kernel_rfl
    case zho => rfl
    case zhx => kernel_rfl
    case zhd => rfl
    case zhi => kernel_rfl
    case zh => exact ⟨xR _, rfl⟩
   refine ⟨fun W hW _ => ?cl, ?_⟩
   case cl =>
    go_simp
    refine (K.out W hW).mono ?_
    rintro e w' ⟨rfl, h1⟩
    exact ⟨rfl, h1⟩
   refine ⟨fun W hW _ => by go_simp; first | exact ⟨xR _, rfl⟩ | exact xR _, ?_⟩
   intro W hW _
   clear HR HR' K
   replace hEr := mK (hEr.out.trans hW)
   clear hW
   go_simp
   go_wp2_with fail
   refine ⟨⟨k + 1, by omega, by go_num, hEr.out⟩, by simp [intOf]; omega⟩
  ·have hke : k = os.length := by omega
   subst hke
   replace hEr := mK hEr
   go_wp2_with fail
   go_ret
   exact ⟨rfl, by rw [← hw0.out]; exact hEr.out⟩
def StopJ (p : Prop) : Prop := p
theorem stopJ {p : Prop} (h : StopJ p) : p := h
theorem catParse_long (s : ByteArray) (w : World) (hs : 65536 < s.size) : Calls Tryz.prog 6 #[.string s] w fun e w' => e = .returned (.tuple #[.pointer none, .int .i64 0, .int .i64 4]) ∧ Ext w w' := by
 have hs' : (65536 : Int) < (s.size : Int) := by omega
 clear hs
 go_enter Tryz.func6, Tryz.ntmps6
 go_wp2_with fail
 go_ret3
 exact ⟨rfl, xR _⟩
theorem all_nfJ {os es : List (PD × Value)} (h : os.map (·.1) = es.map (·.1)) (hok : ∀ x ∈ es, okPD x.1) {y : PD × Value} (hy : y ∈ os) : nf y.1.p ≤ 2048 ∧ nf y.1.q ≤ 2048 := by
 have hm : y.1 ∈ es.map (·.1) := by rw [← h]; exact List.mem_map.2 ⟨y, hy, rfl⟩
 obtain ⟨z, hz, e⟩ := List.mem_map.1 hm
 have := hok z hz
 rw [e] at this
 exact ⟨this.1, this.2.1⟩
theorem endQ_ofS {w : World} {ds : List PD} {rest : List UInt8} {c : Int} (hl : rest.length ≤ 65536) (hm : Max0 w) (ht : Tab10 w) (he : Errs w) (h : EndL ds rest c) : EndQ w ds rest c := by
 have hlen : ∀ t r : List UInt8, cutL 10 rest = some (t, r) → t.length ≤ 65536 := fun t r h => by
  have := congrArg List.length (cutL_some h).1
  rw [List.length_append] at this
  omega
 cases h with
 | cut h0 h1 => exact .cut h0 h1
 | line t r c h1 h2 =>
  exact .line t r c h1 (by have := readL_code h2; omega) fun W e => read_badS W h2 (hlen t r h1) (hm.ext e) (tab_ext ht e) (he.ext e)
 | name t r d h1 h2 h3 =>
  exact .name t r d h1 (fun W e => read_goodS W h2 (hlen t r h1) (hm.ext e) (tab_ext ht e) (he.ext e)) h3
 | full t r d h1 h2 h3 h4 =>
  exact .full t r d h1 (fun W e => read_goodS W h2 (hlen t r h1) (hm.ext e) (tab_ext ht e) (he.ext e)) h3 h4
def CPQS (w : World) (s : ByteArray) (e : Ending) (w' : World) : Prop :=
 (∃ g M es, e = .returned (.tuple #[.pointer (some ⟨g, 0, none⟩), .int .i64 0, .int .i64 0]) ∧ Cat w' g M es ∧ parseT s.data.toList = .ok (es.map (·.1)) ∧ textB (es.map (·.1)) = s.data.toList ∧ Ext w w') ∨
 (∃ (n : Nat) (c : Int), e = .returned (.tuple #[.pointer none, .int .i64 n, .int .i64 c]) ∧ parseT s.data.toList = .error (n, c) ∧ c ≠ 0 ∧ Ext w w')
theorem endL_codeS {ds : List PD} {rest : List UInt8} {c : Int} (h : EndL ds rest c) : c ≠ 0 := by
 cases h with
 | cut => decide
 | line t r c h1 h2 => have := readL_code h2; omega
 | name => decide
 | full => decide
theorem catParse_anyS (s : ByteArray) (w : World) (hs : s.size ≤ 65536) (hm : Max0 w) (ht : Tab10 w) (he : Errs w) :
  Calls Tryz.prog 6 #[.string s] w (CPQS w s) := by
 have hsl := list_size s
 rcases parse_ends (s.data.toList.length + 1) [] s.data.toList (Nat.lt_succ_self _) List.Pairwise.nil (Nat.zero_le _) with ⟨ds, h1, h2, h3, h4, h5⟩ | ⟨ds, rest, c, h1, h2, h3, h4, h5, h6⟩
 ·rw [List.nil_append] at h1 h4 h5
  refine (catParse_genS s w ds [] 0 hs (by rw [List.append_nil]; exact h2) h3 h4 h5 hm ht he (.done rfl)).mono ?_
  rintro e w' (⟨-, g, M, es, k1, k2, k3, k4, -⟩ | ⟨h, -⟩)
  ·exact .inl ⟨g, M, es, k1, k2, by rw [k3]; exact h1, by rw [k3]; exact h2.symm, k4⟩
  ·exact absurd rfl h
 ·rw [List.nil_append] at h1 h4 h5 h6
  have hr : rest.length ≤ 65536 := by
   have := congrArg List.length h2
   rw [List.length_append] at this
   omega
  have hc := endL_codeS h6
  refine (catParse_genS s w ds rest c hs h2 h3 h4 h5 hm ht he (endQ_ofS hr hm ht he h6)).mono ?_
  rintro e w' (⟨h, -⟩ | ⟨-, k1, k2⟩)
  ·exact absurd h hc
  ·exact .inr ⟨ds.length, c, k1, h1, hc, k2⟩
theorem ownsRow11 {w : World} {lo E n : Nat} {v : Value} {xs : List Value} (h : w.ownsRow lo E 11 v n xs) : ∀ g, v.ownBlock = some g → lo ≤ g ∧ g < w.heap.size := by
 intro g hg
 rcases h.2 with ⟨e, _⟩ | ⟨k, cap, cur, e, h1, h2, _⟩
 ·rw [e] at hg; cases hg
 ·rw [e] at hg
  cases hg
  exact ⟨h1, (Array.getElem?_eq_some_iff.1 h2).1⟩
theorem rword_c (kd : Int) (w : World) (h0 : 1 ≤ kd) (h5 : kd ≤ 5) : Calls Tryz.prog 43 #[.int .u8 kd] w fun e w' => e = .returned (.tuple #[.string ⟨(wordB kd).toArray⟩, .int .i64 (wordN kd)]) ∧ w = w' := by
 rcases (show kd = 1 ∨ kd = 2 ∨ kd = 3 ∨ kd = 4 ∨ kd = 5 by omega) with rfl | rfl | rfl | rfl | rfl
 ·go_enter Tryz.func43, Tryz.ntmps43
  go_wp2_with fail
  go_ret2
  exact ⟨rfl, rfl⟩
 ·go_enter Tryz.func43, Tryz.ntmps43
  go_wp2_with fail
  go_ret2
  exact ⟨rfl, rfl⟩
 ·go_enter Tryz.func43, Tryz.ntmps43
  go_wp2_with fail
  go_ret2
  exact ⟨rfl, rfl⟩
 ·go_enter Tryz.func43, Tryz.ntmps43
  go_wp2_with fail
  go_ret2
  exact ⟨rfl, rfl⟩
 ·go_enter Tryz.func43, Tryz.ntmps43
  go_wp2_with fail
  go_ret2
  exact ⟨rfl, rfl⟩
theorem kindL_none {l : List UInt8} (h : ∀ j : Int, 1 ≤ j → j < 6 → l ≠ wordB j) : kindL l = none := by
 unfold kindL
 rw [if_neg (h 1 (by omega) (by omega)), if_neg (h 2 (by omega) (by omega)), if_neg (h 3 (by omega) (by omega)), if_neg (h 4 (by omega) (by omega)), if_neg (h 5 (by omega) (by omega))]
theorem kindL_first {l : List UInt8} {k : Int} (h0 : 1 ≤ k) (h5 : k ≤ 5) (h : ∀ j : Int, 1 ≤ j → j < k → l ≠ wordB j) (hk : l = wordB k) : kindL l = some k := by
 unfold kindL
 rcases (show k = 1 ∨ k = 2 ∨ k = 3 ∨ k = 4 ∨ k = 5 by omega) with rfl | rfl | rfl | rfl | rfl
 ·rw [if_pos hk]
 ·rw [if_neg (h 1 (by omega) (by omega)), if_pos hk]
 ·rw [if_neg (h 1 (by omega) (by omega)), if_neg (h 2 (by omega) (by omega)), if_pos hk]
 ·rw [if_neg (h 1 (by omega) (by omega)), if_neg (h 2 (by omega) (by omega)), if_neg (h 3 (by omega) (by omega)), if_pos hk]
 ·rw [if_neg (h 1 (by omega) (by omega)), if_neg (h 2 (by omega) (by omega)), if_neg (h 3 (by omega) (by omega)), if_neg (h 4 (by omega) (by omega)), if_pos hk]
set_option maxHeartbeats 1600000 in
theorem rkind_c (s : ByteArray) (w : World) :
  Calls Tryz.prog 42 #[.string s] w fun e w' => e = .returned (.tuple #[.int .u8 ((kindL s.data.toList).getD 0), .bool (kindL s.data.toList).isSome]) ∧ w = w' := by
 obtain ⟨R1, hR1⟩ : ∃ R, R = (kindL s.data.toList).getD 0 := ⟨_, rfl⟩
 obtain ⟨R2, hR2⟩ : ∃ R, R = (kindL s.data.toList).isSome := ⟨_, rfl⟩
 rw [← hR1, ← hR2]
 replace hR1 := mK hR1
 replace hR2 := mK hR2
 go_enter Tryz.func42, Tryz.ntmps42
 go_wp2_with fail
 go_loopw [4] (fun t4 wr => ∃ k : Nat, 1 ≤ k ∧ k ≤ 6 ∧ t4 = .int .u8 k ∧ (∀ j : Int, 1 ≤ j → j < k → s.data.toList ≠ wordB j) ∧ w = wr) (fun t4 _ => 6 - (intOf t4).toNat)
 case atStart => exact ⟨1, by omega, by omega, rfl, fun j h1 h2 => by omega, rfl⟩
 case round =>
  obtain ⟨k, hk1, hk6, rfl, hpre, hw⟩ := hrel
  by_cases hk5 : k ≤ 5
  ·have hk5' : (k : Int) ≤ 5 := by omega
   have KW := mK (fun W => rword_c (k : Int) W (by omega) hk5')
   obtain ⟨B, hB⟩ : ∃ B : ByteArray, B = ⟨(wordB (k : Int)).toArray⟩ := ⟨_, rfl⟩
   rw [← hB] at KW
   have hBl : B.data.toList = wordB (k : Int) := by rw [hB]
   replace hpre := mK hpre
   replace hB := mK hB
   by_cases he : s.data.toList = wordB (k : Int)
   ·have hc : (B.toList == s.toList) = true := by rw [ByteArray.toList_eq, ByteArray.toList_eq, hBl, he]; simp
    have hkf := kindL_first (by omega) hk5' hpre.out he
    obtain rfl : R1 = (k : Int) := by rw [hR1.out, hkf]; rfl
    obtain rfl : R2 = true := by rw [hR2.out, hkf]; rfl
    clear he hBl hkf
    go_wp2_with (go_at_call 43; refine (KW.out _).mono ?_; rintro e w2 ⟨rfl, hw2⟩; rw [← hw2]; clear hw2)
    go_ret2
    exact ⟨rfl, hw⟩
   ·have hc : (B.toList == s.toList) = false := by
     rw [ByteArray.toList_eq, ByteArray.toList_eq, hBl, beq_eq_false_iff_ne]
     exact fun h => he h.symm
    have hpre2 : ∀ j : Int, 1 ≤ j → j < ((k + 1 : Nat) : Int) → s.data.toList ≠ wordB j := fun j h1 h2 => by
     by_cases hj : j = k
     ·rw [hj]
      exact he
     ·exact hpre.out j h1 (by omega)
    replace hpre2 := mK hpre2
    clear he hBl
    go_wp2_with (go_at_call 43; refine (KW.out _).mono ?_; rintro e w2 ⟨rfl, hw2⟩; rw [← hw2]; clear hw2)
    go_roundw
    case measure => simp [intOf]; omega
    case rel => exact ⟨k + 1, by omega, by omega, by go_num, hpre2.out, hw⟩
  ·obtain rfl : k = 6 := by omega
   have hkn := kindL_none hpre
   obtain rfl : R1 = 0 := by rw [hR1.out, hkn]; rfl
   obtain rfl : R2 = false := by rw [hR2.out, hkn]; rfl
   clear hpre hkn
   go_wp2_with fail
   go_ret2
   exact ⟨rfl, hw⟩
end Go.Proofs.YtjelnmokcpoofaaGreatDoor
