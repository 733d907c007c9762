/-
  catalog.read at a line that tells of a part. A map of parts that gets a new one by 'm[k], a, b = x, y, z', whatever it holds.
-/
import Derived.Test.YtjelnmokcpoofaaGreatDoorKAK
namespace Go.Proofs.YtjelnmokcpoofaaGreatDoor
set_option maxRecDepth 100000
open Go Go.RowKit Go.Proofs
/-- A part that is read. -/
def PartQ (w : World) (d : PD) (e : Ending) (w' : World) : Prop :=
  ∃ p q : FV, e = .returned (.tuple #[.agg #[.string d.nm, .int .u8 d.kd, .bool p.b1, .slice p.a1 p.n1 p.c1, .bool p.b2, .slice p.a2 p.n2 p.c2, .bool q.b1, .slice q.a1 q.n1 q.c1, .bool q.b2, .slice q.a2 q.n2 q.c2, .int .i64 d.co], .int .i64 0]) ∧ FracO w' w.heap.size (.agg #[.bool p.b1, .slice p.a1 p.n1 p.c1, .bool p.b2, .slice p.a2 p.n2 p.c2]) d.p ∧ FracO w' w.heap.size (.agg #[.bool q.b1, .slice q.a1 q.n1 q.c1, .bool q.b2, .slice q.a2 q.n2 q.c2]) d.q ∧ Ext w w'
theorem data_inj : ∀ {a b : List ByteArray}, a.map (·.data.toList) = b.map (·.data.toList) → a = b
  | [], [], _ => rfl
  | [], _ :: _, h => by cases h
  | _ :: _, [], h => by cases h
  | x :: a, y :: b, h => by
    simp only [List.map_cons, List.cons.injEq] at h
    obtain ⟨h1, h2⟩ := h
    have e : x = y := ByteArray.ext (Array.ext' h1)
    rw [e, data_inj h2]
theorem split_ws (s : ByteArray) (W : World) (hs : s.size ≤ 65536) (hm : Max0 W) (ws : List ByteArray) (hw : wordsL 32 s.data.toList = ws.map (·.data.toList)) :
    Calls Tryz.prog 35 #[.string s, .string ⟨#[32]⟩] W fun e w2 => e = .returned (.slice (some ⟨W.heap.size, 0, none⟩) ws.length ws.length) ∧ w2.heap[W.heap.size]? = some (.cells (ws.map Value.string).toArray 9 (0, 0)) ∧ w2.heap.size = W.heap.size + 1 ∧ Ext W w2 := by
  obtain ⟨m, hm⟩ := hm
  have e1 : Lib.splitB ⟨#[32]⟩ 0 (Lib.countB s ⟨#[32]⟩) s = ws := data_inj ((splitB_words 32 s).trans hw)
  have e2 : Lib.countB s ⟨#[32]⟩ + 1 = ws.length := by rw [← e1]; exact (Lib.splitB_all ⟨#[32]⟩ (by decide) 0 _ s rfl).symm
  refine (Tryz.strings_Split s ⟨#[32]⟩ m W (by omega) hm (by decide)).mono ?_
  rintro e w2 ⟨rfl, rfl⟩
  rw [e1, e2]
  exact ⟨rfl, heap_alloc_new _ _, by simp, (Ext.refl W).al _⟩
/-- While the kind is looked for. -/
def KdR (K : Int) (N : Nat) (w6 w7 : World) (t5 t6 : Value) (wr : World) : Prop :=
  ∃ k : Nat, 1 ≤ k ∧ k ≤ 6 ∧ t6 = .int .u8 (k : Int) ∧ ((K < (k : Int) ∧ t5 = .int .i64 (N : Int) ∧ wr = w7) ∨ ((k : Int) ≤ K ∧ t5 = .int .i64 (-1) ∧ wr = w6))
theorem word_eq {i k : Int} (hi : 1 ≤ i ∧ i ≤ 5) (hk : 1 ≤ k ∧ k ≤ 5) : ((⟨(wordB i).toArray⟩ : ByteArray).toList == (⟨(wordB k).toArray⟩ : ByteArray).toList) = decide (i = k) := by
  rw [ByteArray.toList_eq, ByteArray.toList_eq]
  have h1 : i = 1 ∨ i = 2 ∨ i = 3 ∨ i = 4 ∨ i = 5 := by omega
  have h2 : k = 1 ∨ k = 2 ∨ k = 3 ∨ k = 4 ∨ k = 5 := by omega
  rcases h1 with rfl | rfl | rfl | rfl | rfl <;> rcases h2 with rfl | rfl | rfl | rfl | rfl <;> decide
set_option maxRecDepth 100000 in
set_option maxHeartbeats 6400000 in
theorem read_0
  (s nm : ByteArray) (kd co : Int) (w : World) (hs : s.size ≤ 65536) (hk : 1 ≤ kd ∧ kd ≤ 5) (hco : 0 ≤ co ∧ co ≤ 1073741824) (hnm : nameB nm.data.toList = true) (hm : Max0 w) (ht : Tab10 w)
  (hN : wordN kd = 0) (hw : wordsL 32 s.data.toList = [nm, ⟨(Lib.itoa co).toArray⟩, ⟨(wordB kd).toArray⟩].map (·.data.toList)) (hmy : mayP kd co (some 0) (some 0) = true) :
    Calls Tryz.prog 16 #[.string s] w (PartQ w ⟨nm, kd, 0, 0, co⟩) := by
  have KM := mkHid (fun (W : World) (p q : FV) (h1 : FracR W (.agg #[.bool p.b1, .slice p.a1 p.n1 p.c1, .bool p.b2, .slice p.a2 p.n2 p.c2]) (0)) (h2 : FracR W (.agg #[.bool q.b1, .slice q.a1 q.n1 q.c1, .bool q.b2, .slice q.a2 q.n2 q.c2]) (0)) => (by have := may_v nm kd co p q (some (0)) (some (0)) W (by have := h1.any (Nat.le_trans nf_none (by decide)); rwa [if_pos nf_none] at this) (by have := h2.any (Nat.le_trans nf_none (by decide)); rwa [if_pos nf_none] at this); rw [hmy] at this; exact this : Calls Tryz.prog 40 #[.agg #[.string nm, .int .u8 kd, .bool p.b1, .slice p.a1 p.n1 p.c1, .bool p.b2, .slice p.a2 p.n2 p.c2, .bool q.b1, .slice q.a1 q.n1 q.c1, .bool q.b2, .slice q.a2 q.n2 q.c2, .int .i64 co]] W fun e w' => e = .returned (.bool true) ∧ Ext W w'))
  obtain ⟨w1, hw1⟩ : ∃ w1, w1 = w.alloc (.cells #[.string ⟨#[]⟩, .int .u8 0, .bool false, .slice none 0 0, .bool false, .slice none 0 0, .bool false, .slice none 0 0, .bool false, .slice none 0 0, .int .i64 0] 56) := ⟨_, rfl⟩
  have hE1 : Ext w w1 := by rw [hw1]; exact (Ext.refl w).al _
  have zP1 : w1.heap[w.heap.size]? = some (.cells #[.string ⟨#[]⟩, .int .u8 0, .bool false, .slice none 0 0, .bool false, .slice none 0 0, .bool false, .slice none 0 0, .bool false, .slice none 0 0, .int .i64 0] 56 (0, 0)) := by rw [hw1]; exact heap_alloc_new _ _
  have hsz1 : w1.heap.size = w.heap.size + 1 := by rw [hw1]; simp
  obtain ⟨cs, hcs⟩ : ∃ cs : ByteArray, cs = ⟨(Lib.itoa co).toArray⟩ := ⟨_, rfl⟩
  obtain ⟨kw, hkw⟩ : ∃ kw : ByteArray, kw = ⟨(wordB kd).toArray⟩ := ⟨_, rfl⟩
  rw [← hcs, ← hkw] at hw
  have KS := split_ws s w1 hs (hm.ext hE1) [nm, cs, kw] hw
  rw [hsz1] at KS
  have KS : Calls Tryz.prog 35 #[.string s, .string ⟨#[32]⟩] w1 fun e w2 => e = .returned (.slice (some ⟨w.heap.size + 1, 0, none⟩) 3 3) ∧ w2.heap[w.heap.size + 1]? = some (.cells #[.string nm, .string cs, .string kw] 9 (0, 0)) ∧ w2.heap.size = w.heap.size + 2 ∧ Ext w1 w2 := KS
  replace KS := mkHid KS
  have KN := mkHid (fun W => nought_f W)
  have KU := mkHid (fun W (e : Ext w W) => number_ok co W hco.1 hco.2 (tab_ext ht e))
  have KD := mkHid (fun W => (by have := named_c nm W (by have := hnm; unfold nameB at this; simp only [Bool.and_eq_true, decide_eq_true_eq] at this; have h2 := this.2.1; rw [list_size] at h2; omega); rw [hnm] at this; exact this : Calls Tryz.prog 38 #[.string nm] W fun e w' => e = .returned (.bool true) ∧ Ext W w'))
  have hMx := mkHid (fun W (e : Ext w W) => hm.ext e)
  rw [← hcs] at KU
  replace hkw := mkHid hkw
  replace zP1 := mkHid zP1
  replace hE1 := mkHid hE1
  replace hw1 := mkHid hw1
  replace hsz1 := mkHid hsz1
  clear hcs hm ht hw hs hnm hco
  go_enter Tryz.func16, Tryz.ntmps16
  have tok : Tok 0 := .mk _
  go_wp2_with (first
    | ((have _t : Tok 0 := tok); clear _t; clear tok; (have tok : Tok 1 := .mk _); go_at_call 35; rw [← hw1.out]; refine KS.out.mono ?_; rintro e w2 ⟨rfl, zS2, hsz2, hx2⟩; (have zP2 := mkHid (hx2.blk zP1.out)); (have hE2 := mkHid (hE1.out.trans hx2)); replace zS2 := mkHid zS2; replace hsz2 := mkHid hsz2; clear hx2)
    | ((have _t : Tok 1 := tok); clear _t; clear tok; (have tok : Tok 2 := .mk _); go_at_call 36; refine (KN.out _).mono ?_; rintro e w3 ⟨vp, rfl, hx3, hp3⟩; (obtain ⟨p, rfl⟩ := hp3.r.fv); (have zP3 := mkHid (hx3.blk zP2.out)); (have zS3 := mkHid (hx3.blk zS2.out)); replace hp3 := mkHid (hp3.mono (Nat.le_of_eq hsz2.out.symm)); (have hE3 := mkHid (hE2.out.trans hx3)); (have hl3 := mkHid (show w.heap.size + 2 ≤ w3.heap.size by rw [← hsz2.out]; exact hx3.size)); clear hx3)
    | ((have _t : Tok 2 := tok); clear _t; clear tok; (have tok : Tok 3 := .mk _); go_at_call 36; refine (KN.out _).mono ?_; rintro e w4 ⟨vq, rfl, hx4, hq4⟩; (obtain ⟨q, rfl⟩ := hq4.r.fv); (have zP4 := hx4.blk zP3.out); (have zS4 := hx4.blk zS3.out); replace hq4 := hq4.mono hl3.out;
        (obtain ⟨w5, hw5⟩ : ∃ w5, w5 = w4.setRow w.heap.size #[.string ⟨#[]⟩, .int .u8 0, .bool p.b1, .slice p.a1 p.n1 p.c1, .bool p.b2, .slice p.a2 p.n2 p.c2, .bool false, .slice none 0 0, .bool false, .slice none 0 0, .int .i64 0] := ⟨_, rfl⟩);
        (have zP5 := mkHid (show w5.heap[w.heap.size]? = some (.cells #[.string ⟨#[]⟩, .int .u8 0, .bool p.b1, .slice p.a1 p.n1 p.c1, .bool p.b2, .slice p.a2 p.n2 p.c2, .bool false, .slice none 0 0, .bool false, .slice none 0 0, .int .i64 0] 56 (0, 0)) by rw [hw5]; exact setRow_heap _ _ _ _ _ _ zP4));
        (obtain ⟨w6, hw6⟩ : ∃ w6, w6 = w5.setRow w.heap.size #[.string ⟨#[]⟩, .int .u8 0, .bool p.b1, .slice p.a1 p.n1 p.c1, .bool p.b2, .slice p.a2 p.n2 p.c2, .bool q.b1, .slice q.a1 q.n1 q.c1, .bool q.b2, .slice q.a2 q.n2 q.c2, .int .i64 0] := ⟨_, rfl⟩);
        (have zP6 := mkHid (show w6.heap[w.heap.size]? = some (.cells #[.string ⟨#[]⟩, .int .u8 0, .bool p.b1, .slice p.a1 p.n1 p.c1, .bool p.b2, .slice p.a2 p.n2 p.c2, .bool q.b1, .slice q.a1 q.n1 q.c1, .bool q.b2, .slice q.a2 q.n2 q.c2, .int .i64 0] 56 (0, 0)) by rw [hw6]; exact setRow_heap _ _ _ _ _ _ zP5.out));
        (have zS6 := mkHid (show w6.heap[w.heap.size + 1]? = some (.cells #[.string nm, .string cs, .string kw] 9 (0, 0)) by rw [hw6, setRow_other _ _ _ _ (by omega), hw5, setRow_other _ _ _ _ (by omega)]; exact zS4));
        (have hE6 := mkHid (show Ext w w6 by rw [hw6, hw5]; exact ((hE3.out.trans hx4).row (Nat.le_refl _) _).row (Nat.le_refl _) _));
        (have hp6 := mkHid (show FracO w6 (w.heap.size + 2) (.agg #[.bool p.b1, .slice p.a1 p.n1 p.c1, .bool p.b2, .slice p.a2 p.n2 p.c2]) 0 by rw [hw6, hw5]; exact ((hp3.out.ext hx4).row (by omega) _).row (by omega) _));
        (have hq6 := mkHid (show FracO w6 (w.heap.size + 2) (.agg #[.bool q.b1, .slice q.a1 q.n1 q.c1, .bool q.b2, .slice q.a2 q.n2 q.c2]) 0 by rw [hw6, hw5]; exact (hq4.row (by omega) _).row (by omega) _));
        replace zP4 := mkHid zP4; replace hw5 := mkHid hw5; replace hw6 := mkHid hw6; clear hx4 hq4 zS4)
    | ((have _t : Tok 3 := tok); clear _t; clear tok; (have tok : Tok 4 := .mk _); refine wpList_store_sub rfl 52 (.tmp 17) (.tmp 14) rfl w.heap.size 2 rfl 56 #[.string ⟨#[]⟩, .int .u8 0, .bool false, .slice none 0 0, .bool false, .slice none 0 0, .bool false, .slice none 0 0, .bool false, .slice none 0 0, .int .i64 0] #[.string ⟨#[]⟩, .int .u8 0, .bool p.b1, .slice p.a1 p.n1 p.c1, .bool p.b2, .slice p.a2 p.n2 p.c2, .bool false, .slice none 0 0, .bool false, .slice none 0 0, .int .i64 0] #[.bool p.b1, .slice p.a1 p.n1 p.c1, .bool p.b2, .slice p.a2 p.n2 p.c2] rfl zP4.out (by kernel_rfl) (by simp) (by kernel_rfl) (by kernel_rfl) ?_; rw [← hw5.out])
    | ((have _t : Tok 4 := tok); clear _t; clear tok; (have tok : Tok 5 := .mk _); refine wpList_store_sub rfl 52 (.tmp 19) (.tmp 15) rfl w.heap.size 6 rfl 56 #[.string ⟨#[]⟩, .int .u8 0, .bool p.b1, .slice p.a1 p.n1 p.c1, .bool p.b2, .slice p.a2 p.n2 p.c2, .bool false, .slice none 0 0, .bool false, .slice none 0 0, .int .i64 0] #[.string ⟨#[]⟩, .int .u8 0, .bool p.b1, .slice p.a1 p.n1 p.c1, .bool p.b2, .slice p.a2 p.n2 p.c2, .bool q.b1, .slice q.a1 q.n1 q.c1, .bool q.b2, .slice q.a2 q.n2 q.c2, .int .i64 0] #[.bool q.b1, .slice q.a1 q.n1 q.c1, .bool q.b2, .slice q.a2 q.n2 q.c2] rfl zP5.out (by kernel_rfl) (by simp) (by kernel_rfl) (by kernel_rfl) ?_; rw [← hw6.out]))
  clear tok KS KN hw1 hw5 hw6 zP1 zP2 zP4 zP5 zS2 zS3 zP3 hp3 hE1 hE2 hE3 hsz1 hsz2 hl3
  obtain ⟨w7, hw7⟩ : ∃ w7, w7 = w6.setCell ⟨w.heap.size, 1, none⟩ (.int .u8 kd) := ⟨_, rfl⟩
  have zP7 := mkHid (show w7.heap[w.heap.size]? = some (.cells #[.string ⟨#[]⟩, .int .u8 kd, .bool p.b1, .slice p.a1 p.n1 p.c1, .bool p.b2, .slice p.a2 p.n2 p.c2, .bool q.b1, .slice q.a1 q.n1 q.c1, .bool q.b2, .slice q.a2 q.n2 q.c2, .int .i64 0] 56 (0, 0)) by rw [hw7]; exact heap_setCell_same _ _ _ _ _ _ zP6.out)
  have zS7 := mkHid (show w7.heap[w.heap.size + 1]? = some (.cells #[.string nm, .string cs, .string kw] 9 (0, 0)) by rw [hw7, heap_setCell_other _ _ _ _ (by simp)]; exact zS6.out)
  have hp7 := mkHid (show FracO w7 (w.heap.size + 2) (.agg #[.bool p.b1, .slice p.a1 p.n1 p.c1, .bool p.b2, .slice p.a2 p.n2 p.c2]) 0 by rw [hw7]; exact hp6.out.near fun k hk => heap_setCell_other _ _ _ _ (fun e => by have e' : k = w.heap.size := e; have := (hp6.out.span k hk).1; omega))
  have hq7 := mkHid (show FracO w7 (w.heap.size + 2) (.agg #[.bool q.b1, .slice q.a1 q.n1 q.c1, .bool q.b2, .slice q.a2 q.n2 q.c2]) 0 by rw [hw7]; exact hq6.out.near fun k hk => heap_setCell_other _ _ _ _ (fun e => by have e' : k = w.heap.size := e; have := (hq6.out.span k hk).1; omega))
  have hE7 := mkHid (show Ext w w7 by rw [hw7]; exact hE6.out.st (Nat.le_refl _) _)
  have d1 : w6.cell? ⟨w.heap.size, 1, none⟩ = some (.int .u8 0) := row16_cells zP6.out 1
  have f1 : w6.frozen? ⟨w.heap.size, 1, none⟩ = false := frozen_of_row _ _ _ _ _ zP6.out
  replace d1 := mkHid d1
  replace f1 := mkHid f1
  replace hw7 := mkHid hw7
  have st : KdR kd 0 w6 w7 (.int .i64 (-1)) (.int .u8 1) w6 := ⟨1, by omega, by omega, rfl, .inr ⟨hk.1, rfl, rfl⟩⟩
  replace st := mkHid st
  clear hp6 hq6 hE6 zP6
  go_loopw [5, 6] (fun t5 t6 wr => KdR kd 0 w6 w7 t5 t6 wr) (fun _ t6 _ => 6 - (intOf t6).toNat)
  case atStart => exact st.out
  case round =>
    clear st
    obtain ⟨k, hk1, hk6, rfl, hcase⟩ := hrel
    by_cases hk5 : k ≤ 5
    · rcases hcase with ⟨hKk, rfl, rfl⟩ | ⟨hkK, rfl, rfl⟩
      · have c2 : (wr).cell? ⟨w.heap.size + 1, 2, none⟩ = some (.string kw) := row16_cells zS7.out 2
        have KX := word_c (k : Int) (wr)
        have hq := word_eq (i := (k : Int)) (k := kd) ⟨by omega, by omega⟩ hk
        rw [← hkw.out] at hq
        rw [decide_eq_false (by omega)] at hq
        obtain ⟨sk, hsk⟩ : ∃ sk : ByteArray, sk = ⟨(wordB (k : Int)).toArray⟩ := ⟨_, rfl⟩
        rw [← hsk] at hq KX
        replace KX := mkHid KX
        clear hsk
        go_wp2_with (go_at_call 19; refine KX.out.mono ?_; rintro e w' ⟨rfl, hw'⟩; rw [← hw']; clear hw')
        refine ⟨⟨k + 1, by omega, by omega, by go_num, .inl ⟨by omega, rfl, rfl⟩⟩, by simp [intOf]; omega⟩
      · by_cases hkk : (k : Int) = kd
        · have c2 : (wr).cell? ⟨w.heap.size + 1, 2, none⟩ = some (.string kw) := row16_cells zS6.out 2
          have KX := word_c (k : Int) (wr)
          have hq := word_eq (i := (k : Int)) (k := kd) ⟨by omega, by omega⟩ hk
          rw [← hkw.out] at hq
          rw [decide_eq_true hkk] at hq
          obtain ⟨sk, hsk⟩ : ∃ sk : ByteArray, sk = ⟨(wordB (k : Int)).toArray⟩ := ⟨_, rfl⟩
          rw [← hsk] at hq KX
          rw [hkk, hN] at KX
          rw [hkk]
          replace KX := mkHid KX
          have hd1 := d1.out
          have hf1 := f1.out
          replace hkk := mkHid hkk
          clear hsk
          go_wp2_with (go_at_call 19; refine KX.out.mono ?_; rintro e w' ⟨rfl, hw'⟩; rw [← hw']; clear hw')
          rw [← hw7.out]
          have := hkk.out
          refine ⟨⟨k + 1, by omega, by omega, by rw [← this]; go_num, .inl ⟨by omega, rfl, rfl⟩⟩, by simp [intOf]; omega⟩
        · have c2 : (wr).cell? ⟨w.heap.size + 1, 2, none⟩ = some (.string kw) := row16_cells zS6.out 2
          have KX := word_c (k : Int) (wr)
          have hq := word_eq (i := (k : Int)) (k := kd) ⟨by omega, by omega⟩ hk
          rw [← hkw.out] at hq
          rw [decide_eq_false hkk] at hq
          obtain ⟨sk, hsk⟩ : ∃ sk : ByteArray, sk = ⟨(wordB (k : Int)).toArray⟩ := ⟨_, rfl⟩
          rw [← hsk] at hq KX
          replace KX := mkHid KX
          clear hsk
          go_wp2_with (go_at_call 19; refine KX.out.mono ?_; rintro e w' ⟨rfl, hw'⟩; rw [← hw']; clear hw')
          refine ⟨⟨k + 1, by omega, by omega, by go_num, .inr ⟨by omega, rfl, rfl⟩⟩, by simp [intOf]; omega⟩
    · obtain rfl : k = 6 := by omega
      rcases hcase with ⟨hKk, rfl, rfl⟩ | ⟨hkK, rfl, rfl⟩
      case inr => exfalso; omega
      clear hKk hk1 hk6 hk5 d1 f1 hw7 zS6
      have c1 : wr.cell? ⟨w.heap.size + 1, 1, none⟩ = some (.string cs) := row16_cells zS7.out 1
      have tok : Tok 20 := .mk _
      go_wp2_with (first
        | ((have _t : Tok 20 := tok); clear _t; clear tok; (have tok : Tok 21 := .mk _); go_at_call 37; refine (KU.out _ hE7.out).mono ?_; rintro e w8 ⟨rfl, hx8⟩; clear c1; (have zP8 := mkHid (hx8.blk zP7.out)); (have zS8 := mkHid (hx8.blk zS7.out)); (have hp8 := mkHid (hp7.out.ext hx8)); (have hq8 := mkHid (hq7.out.ext hx8)); (have hE8 := mkHid (hE7.out.trans hx8)); (have d10 : w8.cell? ⟨w.heap.size, 10, none⟩ = some (.int .i64 0) := row16_cells zP8.out 10); (have f10 : w8.frozen? ⟨w.heap.size, 10, none⟩ = false := frozen_of_row _ _ _ _ _ zP8.out); (have c0 : w8.cell? ⟨w.heap.size + 1, 0, none⟩ = some (.string nm) := row16_cells zS8.out 0); (have d0 : w8.cell? ⟨w.heap.size, 0, none⟩ = some (.string ⟨#[]⟩) := row16_cells zP8.out 0); (have f0 : w8.frozen? ⟨w.heap.size, 0, none⟩ = false := frozen_of_row _ _ _ _ _ zP8.out); clear hx8)
        | ((have _t : Tok 21 := tok); clear _t; clear tok; (have tok : Tok 22 := .mk _); go_at_call 38;
            (obtain ⟨w9, hw9⟩ : ∃ w9, w9 = (w8.setCell ⟨w.heap.size, 10, none⟩ (.int .i64 co)).setCell ⟨w.heap.size, 0, none⟩ (.string nm) := ⟨_, rfl⟩); rw [← hw9];
            (have zP9 : w9.heap[w.heap.size]? = some (.cells #[.string nm, .int .u8 kd, .bool p.b1, .slice p.a1 p.n1 p.c1, .bool p.b2, .slice p.a2 p.n2 p.c2, .bool q.b1, .slice q.a1 q.n1 q.c1, .bool q.b2, .slice q.a2 q.n2 q.c2, .int .i64 co] 56 (0, 0)) := by rw [hw9]; exact heap_setCell_same _ _ _ _ _ _ (heap_setCell_same _ _ _ _ _ _ zP8.out));
            (have hnear : ∀ k, k ≠ w.heap.size → w9.heap[k]? = w8.heap[k]? := fun k hk => by rw [hw9]; exact (heap_setCell_other _ _ _ _ hk).trans (heap_setCell_other _ _ _ _ hk));
            (have hp9 : FracO w9 (w.heap.size + 2) (.agg #[.bool p.b1, .slice p.a1 p.n1 p.c1, .bool p.b2, .slice p.a2 p.n2 p.c2]) 0 := hp8.out.near fun k hk => hnear k (fun e => by have := (hp8.out.span k hk).1; omega));
            (have hq9 : FracO w9 (w.heap.size + 2) (.agg #[.bool q.b1, .slice q.a1 q.n1 q.c1, .bool q.b2, .slice q.a2 q.n2 q.c2]) 0 := hq8.out.near fun k hk => hnear k (fun e => by have := (hq8.out.span k hk).1; omega));
            (have zS9 := (hnear (w.heap.size + 1) (by omega)).trans zS8.out);
            (have hE9 : Ext w w9 := by rw [hw9]; exact (hE8.out.st (Nat.le_refl _) _).st (Nat.le_refl _) _);
            refine (KD.out _).mono ?_; rintro e w10 ⟨rfl, hx⟩; (have zP10 := mkHid (hx.blk zP9)); (have zS10 := mkHid (hx.blk zS9)); (have hp10 := mkHid (hp9.ext hx)); (have hq10 := mkHid (hq9.ext hx)); (have hE10 := mkHid (hE9.trans hx)); clear hx zP9 zS9 hp9 hq9 hE9 hnear hw9 d10 f10 c0 d0 f0 zP8 zS8 hp8 hq8 hE8))
      clear tok KU KD zP7 zS7 hp7 hq7 hE7
      obtain ⟨w11, hw11⟩ : ∃ w11, w11 = w10.alloc (.cells #[.pointer (some ⟨w.heap.size, 2, none⟩), .pointer (some ⟨w.heap.size, 6, none⟩)] 94) := ⟨_, rfl⟩
      rw [← hw11]
      have hx11 : Ext w10 w11 := by rw [hw11]; exact (Ext.refl _).al _
      have zB11 := mkHid (show w11.heap[w10.heap.size]? = some (.cells #[.pointer (some ⟨w.heap.size, 2, none⟩), .pointer (some ⟨w.heap.size, 6, none⟩)] 94 (0, 0)) by rw [hw11]; exact heap_alloc_new _ _)
      have zP11 := mkHid (hx11.blk zP10.out)
      have zS11 := mkHid (hx11.blk zS10.out)
      have hp11 := mkHid (hp10.out.ext hx11)
      have hq11 := mkHid (hq10.out.ext hx11)
      have hE11 := mkHid (hE10.out.trans hx11)
      have hb11 := mkHid (show w.heap.size < w10.heap.size from (Array.getElem?_eq_some_iff.1 zP10.out).1)
      have hl11 := mkHid (show w.heap.size + 2 ≤ w11.heap.size by have := (Array.getElem?_eq_some_iff.1 zS10.out).1; have := hx11.size; omega)
      clear hx11 hw11 zP10 zS10 hp10 hq10 hE10
      refine wp_loop_rounds 1 ?_
      rw [rounds_succ]
      have zPx := mkHid zP11.out
      have hpx := mkHid hp11.out
      have hqx := mkHid hq11.out
      have hEx := mkHid hE11.out
      clear zP11 hp11 hq11 hE11 zB11 zS11
      have tok : Tok 30 := .mk _
      go_wp2_with (first
        | ((have _t : Tok 30 := tok); clear _t; clear tok; (have tok : Tok 31 := .mk _); refine wpList_load_row (by rfl) 56 (.tmp 2) rfl w.heap.size rfl 56 #[.string nm, .int .u8 kd, .bool p.b1, .slice p.a1 p.n1 p.c1, .bool p.b2, .slice p.a2 p.n2 p.c2, .bool q.b1, .slice q.a1 q.n1 q.c1, .bool q.b2, .slice q.a2 q.n2 q.c2, .int .i64 co] (0, 0) _ zPx.out Tryz.underlying56 rfl (by kernel_rfl) ?_)
        | ((have _t : Tok 31 := tok); clear _t; clear tok; (have tok : Tok 32 := .mk _); go_at_call 40; refine (KM.out _ p q hpx.out.r hqx.out.r).mono ?_; rintro e w12 ⟨rfl, hx⟩; (have zPy := mkHid (hx.blk zPx.out)); (have hpy := mkHid (hpx.out.ext hx)); (have hqy := mkHid (hqx.out.ext hx)); (have hEy := mkHid (hEx.out.trans hx)); clear hx zPx hpx hqx hEx)
        | ((have _t : Tok 32 := tok); clear _t; clear tok; (have tok : Tok 33 := .mk _); refine wpList_load_row (by rfl) 56 (.tmp 2) rfl w.heap.size rfl 56 #[.string nm, .int .u8 kd, .bool p.b1, .slice p.a1 p.n1 p.c1, .bool p.b2, .slice p.a2 p.n2 p.c2, .bool q.b1, .slice q.a1 q.n1 q.c1, .bool q.b2, .slice q.a2 q.n2 q.c2, .int .i64 co] (0, 0) _ zPy.out Tryz.underlying56 rfl (by kernel_rfl) ?_)
        | ((have _t : Tok 33 := tok); clear _t; clear tok; (have tok : Tok 34 := .mk _); refine wpList_store_row rfl 56 (.tmp 2) (.tmp 106) rfl w.heap.size #[.string nm, .int .u8 kd, .bool p.b1, .slice p.a1 p.n1 p.c1, .bool p.b2, .slice p.a2 p.n2 p.c2, .bool q.b1, .slice q.a1 q.n1 q.c1, .bool q.b2, .slice q.a2 q.n2 q.c2, .int .i64 co] rfl rfl 56 _ zPy.out (by kernel_rfl) rfl (by kernel_rfl) ?_))
      refine bodyPost_ret (results_row_tmp rfl _ _ w.heap.size 56 #[.string nm, .int .u8 kd, .bool p.b1, .slice p.a1 p.n1 p.c1, .bool p.b2, .slice p.a2 p.n2 p.c2, .bool q.b1, .slice q.a1 q.n1 q.c1, .bool q.b2, .slice q.a2 q.n2 q.c2, .int .i64 co] _ _ rfl rfl (setRow_heap _ _ _ _ _ _ zPy.out) Tryz.underlying56 rfl (by kernel_rfl)) rfl ?_
      exact ⟨p, q, rfl, (hpy.out.row (by omega) _).mono (by omega), (hqy.out.row (by omega) _).mono (by omega), hEy.out.row (Nat.le_refl _) _⟩
theorem frac_ok (c : ByteArray) (P : Rat) (w : World) (hc : c.size ≤ 65536) (hm : Max0 w) (h : readF c.data.toList = some P) (hn : nf P ≤ 2048) :
    Calls Tryz.prog 39 #[.string c] w fun e w' => ∃ f : FV, e = .returned (.tuple #[.agg #[.bool f.b1, .slice f.a1 f.n1 f.c1, .bool f.b2, .slice f.a2 f.n2 f.c2], .int .i64 0]) ∧ Ext w w' ∧ FracO w' w.heap.size (.agg #[.bool f.b1, .slice f.a1 f.n1 f.c1, .bool f.b2, .slice f.a2 f.n2 f.c2]) P := by
  refine (parse_c c w hc hm).mono ?_
  rintro e w' ⟨f, rfl, h1, h2⟩
  have e0 : parseE c.data.toList = 0 := by
    unfold parseE
    rw [h]
    exact if_pos hn
  rw [e0]
  exact ⟨f, rfl, h1, h2 P h hn⟩
set_option maxRecDepth 100000 in
set_option maxHeartbeats 6400000 in
theorem read_1
  (s nm : ByteArray) (kd co : Int) (w : World) (hs : s.size ≤ 65536) (hk : 1 ≤ kd ∧ kd ≤ 5) (hco : 0 ≤ co ∧ co ≤ 1073741824) (hnm : nameB nm.data.toList = true) (hm : Max0 w) (ht : Tab10 w)
  (P : Rat) (k3 : ByteArray) (h3 : readF k3.data.toList = some P) (nP : nf P ≤ 2048) (l3 : k3.size ≤ 65536)
  (hN : wordN kd = 1) (hw : wordsL 32 s.data.toList = [nm, ⟨(Lib.itoa co).toArray⟩, ⟨(wordB kd).toArray⟩, k3].map (·.data.toList)) (hmy : mayP kd co (some P) (some 0) = true) :
    Calls Tryz.prog 16 #[.string s] w (PartQ w ⟨nm, kd, P, 0, co⟩) := by
  have KM := mkHid (fun (W : World) (p q : FV) (h1 : FracR W (.agg #[.bool p.b1, .slice p.a1 p.n1 p.c1, .bool p.b2, .slice p.a2 p.n2 p.c2]) (P)) (h2 : FracR W (.agg #[.bool q.b1, .slice q.a1 q.n1 q.c1, .bool q.b2, .slice q.a2 q.n2 q.c2]) (0)) => (by have := may_v nm kd co p q (some (P)) (some (0)) W (by have := h1.any (Nat.le_trans nP (by decide)); rwa [if_pos nP] at this) (by have := h2.any (Nat.le_trans nf_none (by decide)); rwa [if_pos nf_none] at this); rw [hmy] at this; exact this : Calls Tryz.prog 40 #[.agg #[.string nm, .int .u8 kd, .bool p.b1, .slice p.a1 p.n1 p.c1, .bool p.b2, .slice p.a2 p.n2 p.c2, .bool q.b1, .slice q.a1 q.n1 q.c1, .bool q.b2, .slice q.a2 q.n2 q.c2, .int .i64 co]] W fun e w' => e = .returned (.bool true) ∧ Ext W w'))
  have KF0 := mkHid (fun W (e : Ext w W) => frac_ok k3 P W l3 (hm.ext e) h3 nP)
  clear h3 nP l3
  obtain ⟨w1, hw1⟩ : ∃ w1, w1 = w.alloc (.cells #[.string ⟨#[]⟩, .int .u8 0, .bool false, .slice none 0 0, .bool false, .slice none 0 0, .bool false, .slice none 0 0, .bool false, .slice none 0 0, .int .i64 0] 56) := ⟨_, rfl⟩
  have hE1 : Ext w w1 := by rw [hw1]; exact (Ext.refl w).al _
  have zP1 : w1.heap[w.heap.size]? = some (.cells #[.string ⟨#[]⟩, .int .u8 0, .bool false, .slice none 0 0, .bool false, .slice none 0 0, .bool false, .slice none 0 0, .bool false, .slice none 0 0, .int .i64 0] 56 (0, 0)) := by rw [hw1]; exact heap_alloc_new _ _
  have hsz1 : w1.heap.size = w.heap.size + 1 := by rw [hw1]; simp
  obtain ⟨cs, hcs⟩ : ∃ cs : ByteArray, cs = ⟨(Lib.itoa co).toArray⟩ := ⟨_, rfl⟩
  obtain ⟨kw, hkw⟩ : ∃ kw : ByteArray, kw = ⟨(wordB kd).toArray⟩ := ⟨_, rfl⟩
  rw [← hcs, ← hkw] at hw
  have KS := split_ws s w1 hs (hm.ext hE1) [nm, cs, kw, k3] hw
  rw [hsz1] at KS
  have KS : Calls Tryz.prog 35 #[.string s, .string ⟨#[32]⟩] w1 fun e w2 => e = .returned (.slice (some ⟨w.heap.size + 1, 0, none⟩) 4 4) ∧ w2.heap[w.heap.size + 1]? = some (.cells #[.string nm, .string cs, .string kw, .string k3] 9 (0, 0)) ∧ w2.heap.size = w.heap.size + 2 ∧ Ext w1 w2 := KS
  replace KS := mkHid KS
  have KN := mkHid (fun W => nought_f W)
  have KU := mkHid (fun W (e : Ext w W) => number_ok co W hco.1 hco.2 (tab_ext ht e))
  have KD := mkHid (fun W => (by have := named_c nm W (by have := hnm; unfold nameB at this; simp only [Bool.and_eq_true, decide_eq_true_eq] at this; have h2 := this.2.1; rw [list_size] at h2; omega); rw [hnm] at this; exact this : Calls Tryz.prog 38 #[.string nm] W fun e w' => e = .returned (.bool true) ∧ Ext W w'))
  have hMx := mkHid (fun W (e : Ext w W) => hm.ext e)
  rw [← hcs] at KU
  replace hkw := mkHid hkw
  replace zP1 := mkHid zP1
  replace hE1 := mkHid hE1
  replace hw1 := mkHid hw1
  replace hsz1 := mkHid hsz1
  clear hcs hm ht hw hs hnm hco
  go_enter Tryz.func16, Tryz.ntmps16
  have tok : Tok 0 := .mk _
  go_wp2_with (first
    | ((have _t : Tok 0 := tok); clear _t; clear tok; (have tok : Tok 1 := .mk _); go_at_call 35; rw [← hw1.out]; refine KS.out.mono ?_; rintro e w2 ⟨rfl, zS2, hsz2, hx2⟩; (have zP2 := mkHid (hx2.blk zP1.out)); (have hE2 := mkHid (hE1.out.trans hx2)); replace zS2 := mkHid zS2; replace hsz2 := mkHid hsz2; clear hx2)
    | ((have _t : Tok 1 := tok); clear _t; clear tok; (have tok : Tok 2 := .mk _); go_at_call 36; refine (KN.out _).mono ?_; rintro e w3 ⟨vp, rfl, hx3, hp3⟩; (obtain ⟨p, rfl⟩ := hp3.r.fv); (have zP3 := mkHid (hx3.blk zP2.out)); (have zS3 := mkHid (hx3.blk zS2.out)); replace hp3 := mkHid (hp3.mono (Nat.le_of_eq hsz2.out.symm)); (have hE3 := mkHid (hE2.out.trans hx3)); (have hl3 := mkHid (show w.heap.size + 2 ≤ w3.heap.size by rw [← hsz2.out]; exact hx3.size)); clear hx3)
    | ((have _t : Tok 2 := tok); clear _t; clear tok; (have tok : Tok 3 := .mk _); go_at_call 36; refine (KN.out _).mono ?_; rintro e w4 ⟨vq, rfl, hx4, hq4⟩; (obtain ⟨q, rfl⟩ := hq4.r.fv); (have zP4 := hx4.blk zP3.out); (have zS4 := hx4.blk zS3.out); replace hq4 := hq4.mono hl3.out;
        (obtain ⟨w5, hw5⟩ : ∃ w5, w5 = w4.setRow w.heap.size #[.string ⟨#[]⟩, .int .u8 0, .bool p.b1, .slice p.a1 p.n1 p.c1, .bool p.b2, .slice p.a2 p.n2 p.c2, .bool false, .slice none 0 0, .bool false, .slice none 0 0, .int .i64 0] := ⟨_, rfl⟩);
        (have zP5 := mkHid (show w5.heap[w.heap.size]? = some (.cells #[.string ⟨#[]⟩, .int .u8 0, .bool p.b1, .slice p.a1 p.n1 p.c1, .bool p.b2, .slice p.a2 p.n2 p.c2, .bool false, .slice none 0 0, .bool false, .slice none 0 0, .int .i64 0] 56 (0, 0)) by rw [hw5]; exact setRow_heap _ _ _ _ _ _ zP4));
        (obtain ⟨w6, hw6⟩ : ∃ w6, w6 = w5.setRow w.heap.size #[.string ⟨#[]⟩, .int .u8 0, .bool p.b1, .slice p.a1 p.n1 p.c1, .bool p.b2, .slice p.a2 p.n2 p.c2, .bool q.b1, .slice q.a1 q.n1 q.c1, .bool q.b2, .slice q.a2 q.n2 q.c2, .int .i64 0] := ⟨_, rfl⟩);
        (have zP6 := mkHid (show w6.heap[w.heap.size]? = some (.cells #[.string ⟨#[]⟩, .int .u8 0, .bool p.b1, .slice p.a1 p.n1 p.c1, .bool p.b2, .slice p.a2 p.n2 p.c2, .bool q.b1, .slice q.a1 q.n1 q.c1, .bool q.b2, .slice q.a2 q.n2 q.c2, .int .i64 0] 56 (0, 0)) by rw [hw6]; exact setRow_heap _ _ _ _ _ _ zP5.out));
        (have zS6 := mkHid (show w6.heap[w.heap.size + 1]? = some (.cells #[.string nm, .string cs, .string kw, .string k3] 9 (0, 0)) by rw [hw6, setRow_other _ _ _ _ (by omega), hw5, setRow_other _ _ _ _ (by omega)]; exact zS4));
        (have hE6 := mkHid (show Ext w w6 by rw [hw6, hw5]; exact ((hE3.out.trans hx4).row (Nat.le_refl _) _).row (Nat.le_refl _) _));
        (have hp6 := mkHid (show FracO w6 (w.heap.size + 2) (.agg #[.bool p.b1, .slice p.a1 p.n1 p.c1, .bool p.b2, .slice p.a2 p.n2 p.c2]) 0 by rw [hw6, hw5]; exact ((hp3.out.ext hx4).row (by omega) _).row (by omega) _));
        (have hq6 := mkHid (show FracO w6 (w.heap.size + 2) (.agg #[.bool q.b1, .slice q.a1 q.n1 q.c1, .bool q.b2, .slice q.a2 q.n2 q.c2]) 0 by rw [hw6, hw5]; exact (hq4.row (by omega) _).row (by omega) _));
        replace zP4 := mkHid zP4; replace hw5 := mkHid hw5; replace hw6 := mkHid hw6; clear hx4 hq4 zS4)
    | ((have _t : Tok 3 := tok); clear _t; clear tok; (have tok : Tok 4 := .mk _); refine wpList_store_sub rfl 52 (.tmp 17) (.tmp 14) rfl w.heap.size 2 rfl 56 #[.string ⟨#[]⟩, .int .u8 0, .bool false, .slice none 0 0, .bool false, .slice none 0 0, .bool false, .slice none 0 0, .bool false, .slice none 0 0, .int .i64 0] #[.string ⟨#[]⟩, .int .u8 0, .bool p.b1, .slice p.a1 p.n1 p.c1, .bool p.b2, .slice p.a2 p.n2 p.c2, .bool false, .slice none 0 0, .bool false, .slice none 0 0, .int .i64 0] #[.bool p.b1, .slice p.a1 p.n1 p.c1, .bool p.b2, .slice p.a2 p.n2 p.c2] rfl zP4.out (by kernel_rfl) (by simp) (by kernel_rfl) (by kernel_rfl) ?_; rw [← hw5.out])
    | ((have _t : Tok 4 := tok); clear _t; clear tok; (have tok : Tok 5 := .mk _); refine wpList_store_sub rfl 52 (.tmp 19) (.tmp 15) rfl w.heap.size 6 rfl 56 #[.string ⟨#[]⟩, .int .u8 0, .bool p.b1, .slice p.a1 p.n1 p.c1, .bool p.b2, .slice p.a2 p.n2 p.c2, .bool false, .slice none 0 0, .bool false, .slice none 0 0, .int .i64 0] #[.string ⟨#[]⟩, .int .u8 0, .bool p.b1, .slice p.a1 p.n1 p.c1, .bool p.b2, .slice p.a2 p.n2 p.c2, .bool q.b1, .slice q.a1 q.n1 q.c1, .bool q.b2, .slice q.a2 q.n2 q.c2, .int .i64 0] #[.bool q.b1, .slice q.a1 q.n1 q.c1, .bool q.b2, .slice q.a2 q.n2 q.c2] rfl zP5.out (by kernel_rfl) (by simp) (by kernel_rfl) (by kernel_rfl) ?_; rw [← hw6.out]))
  clear tok KS KN hw1 hw5 hw6 zP1 zP2 zP4 zP5 zS2 zS3 zP3 hp3 hE1 hE2 hE3 hsz1 hsz2 hl3
  obtain ⟨w7, hw7⟩ : ∃ w7, w7 = w6.setCell ⟨w.heap.size, 1, none⟩ (.int .u8 kd) := ⟨_, rfl⟩
  have zP7 := mkHid (show w7.heap[w.heap.size]? = some (.cells #[.string ⟨#[]⟩, .int .u8 kd, .bool p.b1, .slice p.a1 p.n1 p.c1, .bool p.b2, .slice p.a2 p.n2 p.c2, .bool q.b1, .slice q.a1 q.n1 q.c1, .bool q.b2, .slice q.a2 q.n2 q.c2, .int .i64 0] 56 (0, 0)) by rw [hw7]; exact heap_setCell_same _ _ _ _ _ _ zP6.out)
  have zS7 := mkHid (show w7.heap[w.heap.size + 1]? = some (.cells #[.string nm, .string cs, .string kw, .string k3] 9 (0, 0)) by rw [hw7, heap_setCell_other _ _ _ _ (by simp)]; exact zS6.out)
  have hp7 := mkHid (show FracO w7 (w.heap.size + 2) (.agg #[.bool p.b1, .slice p.a1 p.n1 p.c1, .bool p.b2, .slice p.a2 p.n2 p.c2]) 0 by rw [hw7]; exact hp6.out.near fun k hk => heap_setCell_other _ _ _ _ (fun e => by have e' : k = w.heap.size := e; have := (hp6.out.span k hk).1; omega))
  have hq7 := mkHid (show FracO w7 (w.heap.size + 2) (.agg #[.bool q.b1, .slice q.a1 q.n1 q.c1, .bool q.b2, .slice q.a2 q.n2 q.c2]) 0 by rw [hw7]; exact hq6.out.near fun k hk => heap_setCell_other _ _ _ _ (fun e => by have e' : k = w.heap.size := e; have := (hq6.out.span k hk).1; omega))
  have hE7 := mkHid (show Ext w w7 by rw [hw7]; exact hE6.out.st (Nat.le_refl _) _)
  have d1 : w6.cell? ⟨w.heap.size, 1, none⟩ = some (.int .u8 0) := row16_cells zP6.out 1
  have f1 : w6.frozen? ⟨w.heap.size, 1, none⟩ = false := frozen_of_row _ _ _ _ _ zP6.out
  replace d1 := mkHid d1
  replace f1 := mkHid f1
  replace hw7 := mkHid hw7
  have st : KdR kd 1 w6 w7 (.int .i64 (-1)) (.int .u8 1) w6 := ⟨1, by omega, by omega, rfl, .inr ⟨hk.1, rfl, rfl⟩⟩
  replace st := mkHid st
  clear hp6 hq6 hE6 zP6
  go_loopw [5, 6] (fun t5 t6 wr => KdR kd 1 w6 w7 t5 t6 wr) (fun _ t6 _ => 6 - (intOf t6).toNat)
  case atStart => exact st.out
  case round =>
    clear st
    obtain ⟨k, hk1, hk6, rfl, hcase⟩ := hrel
    by_cases hk5 : k ≤ 5
    · rcases hcase with ⟨hKk, rfl, rfl⟩ | ⟨hkK, rfl, rfl⟩
      · have c2 : (wr).cell? ⟨w.heap.size + 1, 2, none⟩ = some (.string kw) := row16_cells zS7.out 2
        have KX := word_c (k : Int) (wr)
        have hq := word_eq (i := (k : Int)) (k := kd) ⟨by omega, by omega⟩ hk
        rw [← hkw.out] at hq
        rw [decide_eq_false (by omega)] at hq
        obtain ⟨sk, hsk⟩ : ∃ sk : ByteArray, sk = ⟨(wordB (k : Int)).toArray⟩ := ⟨_, rfl⟩
        rw [← hsk] at hq KX
        replace KX := mkHid KX
        clear hsk
        go_wp2_with (go_at_call 19; refine KX.out.mono ?_; rintro e w' ⟨rfl, hw'⟩; rw [← hw']; clear hw')
        refine ⟨⟨k + 1, by omega, by omega, by go_num, .inl ⟨by omega, rfl, rfl⟩⟩, by simp [intOf]; omega⟩
      · by_cases hkk : (k : Int) = kd
        · have c2 : (wr).cell? ⟨w.heap.size + 1, 2, none⟩ = some (.string kw) := row16_cells zS6.out 2
          have KX := word_c (k : Int) (wr)
          have hq := word_eq (i := (k : Int)) (k := kd) ⟨by omega, by omega⟩ hk
          rw [← hkw.out] at hq
          rw [decide_eq_true hkk] at hq
          obtain ⟨sk, hsk⟩ : ∃ sk : ByteArray, sk = ⟨(wordB (k : Int)).toArray⟩ := ⟨_, rfl⟩
          rw [← hsk] at hq KX
          rw [hkk, hN] at KX
          rw [hkk]
          replace KX := mkHid KX
          have hd1 := d1.out
          have hf1 := f1.out
          replace hkk := mkHid hkk
          clear hsk
          go_wp2_with (go_at_call 19; refine KX.out.mono ?_; rintro e w' ⟨rfl, hw'⟩; rw [← hw']; clear hw')
          rw [← hw7.out]
          have := hkk.out
          refine ⟨⟨k + 1, by omega, by omega, by rw [← this]; go_num, .inl ⟨by omega, rfl, rfl⟩⟩, by simp [intOf]; omega⟩
        · have c2 : (wr).cell? ⟨w.heap.size + 1, 2, none⟩ = some (.string kw) := row16_cells zS6.out 2
          have KX := word_c (k : Int) (wr)
          have hq := word_eq (i := (k : Int)) (k := kd) ⟨by omega, by omega⟩ hk
          rw [← hkw.out] at hq
          rw [decide_eq_false hkk] at hq
          obtain ⟨sk, hsk⟩ : ∃ sk : ByteArray, sk = ⟨(wordB (k : Int)).toArray⟩ := ⟨_, rfl⟩
          rw [← hsk] at hq KX
          replace KX := mkHid KX
          clear hsk
          go_wp2_with (go_at_call 19; refine KX.out.mono ?_; rintro e w' ⟨rfl, hw'⟩; rw [← hw']; clear hw')
          refine ⟨⟨k + 1, by omega, by omega, by go_num, .inr ⟨by omega, rfl, rfl⟩⟩, by simp [intOf]; omega⟩
    · obtain rfl : k = 6 := by omega
      rcases hcase with ⟨hKk, rfl, rfl⟩ | ⟨hkK, rfl, rfl⟩
      case inr => exfalso; omega
      clear hKk hk1 hk6 hk5 d1 f1 hw7 zS6
      have c1 : wr.cell? ⟨w.heap.size + 1, 1, none⟩ = some (.string cs) := row16_cells zS7.out 1
      have tok : Tok 20 := .mk _
      go_wp2_with (first
        | ((have _t : Tok 20 := tok); clear _t; clear tok; (have tok : Tok 21 := .mk _); go_at_call 37; refine (KU.out _ hE7.out).mono ?_; rintro e w8 ⟨rfl, hx8⟩; clear c1; (have zP8 := mkHid (hx8.blk zP7.out)); (have zS8 := mkHid (hx8.blk zS7.out)); (have hp8 := mkHid (hp7.out.ext hx8)); (have hq8 := mkHid (hq7.out.ext hx8)); (have hE8 := mkHid (hE7.out.trans hx8)); (have d10 : w8.cell? ⟨w.heap.size, 10, none⟩ = some (.int .i64 0) := row16_cells zP8.out 10); (have f10 : w8.frozen? ⟨w.heap.size, 10, none⟩ = false := frozen_of_row _ _ _ _ _ zP8.out); (have c0 : w8.cell? ⟨w.heap.size + 1, 0, none⟩ = some (.string nm) := row16_cells zS8.out 0); (have d0 : w8.cell? ⟨w.heap.size, 0, none⟩ = some (.string ⟨#[]⟩) := row16_cells zP8.out 0); (have f0 : w8.frozen? ⟨w.heap.size, 0, none⟩ = false := frozen_of_row _ _ _ _ _ zP8.out); clear hx8)
        | ((have _t : Tok 21 := tok); clear _t; clear tok; (have tok : Tok 22 := .mk _); go_at_call 38;
            (obtain ⟨w9, hw9⟩ : ∃ w9, w9 = (w8.setCell ⟨w.heap.size, 10, none⟩ (.int .i64 co)).setCell ⟨w.heap.size, 0, none⟩ (.string nm) := ⟨_, rfl⟩); rw [← hw9];
            (have zP9 : w9.heap[w.heap.size]? = some (.cells #[.string nm, .int .u8 kd, .bool p.b1, .slice p.a1 p.n1 p.c1, .bool p.b2, .slice p.a2 p.n2 p.c2, .bool q.b1, .slice q.a1 q.n1 q.c1, .bool q.b2, .slice q.a2 q.n2 q.c2, .int .i64 co] 56 (0, 0)) := by rw [hw9]; exact heap_setCell_same _ _ _ _ _ _ (heap_setCell_same _ _ _ _ _ _ zP8.out));
            (have hnear : ∀ k, k ≠ w.heap.size → w9.heap[k]? = w8.heap[k]? := fun k hk => by rw [hw9]; exact (heap_setCell_other _ _ _ _ hk).trans (heap_setCell_other _ _ _ _ hk));
            (have hp9 : FracO w9 (w.heap.size + 2) (.agg #[.bool p.b1, .slice p.a1 p.n1 p.c1, .bool p.b2, .slice p.a2 p.n2 p.c2]) 0 := hp8.out.near fun k hk => hnear k (fun e => by have := (hp8.out.span k hk).1; omega));
            (have hq9 : FracO w9 (w.heap.size + 2) (.agg #[.bool q.b1, .slice q.a1 q.n1 q.c1, .bool q.b2, .slice q.a2 q.n2 q.c2]) 0 := hq8.out.near fun k hk => hnear k (fun e => by have := (hq8.out.span k hk).1; omega));
            (have zS9 := (hnear (w.heap.size + 1) (by omega)).trans zS8.out);
            (have hE9 : Ext w w9 := by rw [hw9]; exact (hE8.out.st (Nat.le_refl _) _).st (Nat.le_refl _) _);
            refine (KD.out _).mono ?_; rintro e w10 ⟨rfl, hx⟩; (have zP10 := mkHid (hx.blk zP9)); (have zS10 := mkHid (hx.blk zS9)); (have hp10 := mkHid (hp9.ext hx)); (have hq10 := mkHid (hq9.ext hx)); (have hE10 := mkHid (hE9.trans hx)); clear hx zP9 zS9 hp9 hq9 hE9 hnear hw9 d10 f10 c0 d0 f0 zP8 zS8 hp8 hq8 hE8))
      clear tok KU KD zP7 zS7 hp7 hq7 hE7
      obtain ⟨w11, hw11⟩ : ∃ w11, w11 = w10.alloc (.cells #[.pointer (some ⟨w.heap.size, 2, none⟩), .pointer (some ⟨w.heap.size, 6, none⟩)] 94) := ⟨_, rfl⟩
      rw [← hw11]
      have hx11 : Ext w10 w11 := by rw [hw11]; exact (Ext.refl _).al _
      have zB11 := mkHid (show w11.heap[w10.heap.size]? = some (.cells #[.pointer (some ⟨w.heap.size, 2, none⟩), .pointer (some ⟨w.heap.size, 6, none⟩)] 94 (0, 0)) by rw [hw11]; exact heap_alloc_new _ _)
      have zP11 := mkHid (hx11.blk zP10.out)
      have zS11 := mkHid (hx11.blk zS10.out)
      have hp11 := mkHid (hp10.out.ext hx11)
      have hq11 := mkHid (hq10.out.ext hx11)
      have hE11 := mkHid (hE10.out.trans hx11)
      have hb11 := mkHid (show w.heap.size < w10.heap.size from (Array.getElem?_eq_some_iff.1 zP10.out).1)
      have hl11 := mkHid (show w.heap.size + 2 ≤ w11.heap.size by have := (Array.getElem?_eq_some_iff.1 zS10.out).1; have := hx11.size; omega)
      clear hx11 hw11 zP10 zS10 hp10 hq10 hE10
      refine wp_loop_rounds 2 ?_
      rw [rounds_succ]
      have cw := row16_cells zS11.out (3 + 0)
      have cb := row16_cells zB11.out 0
      replace cw : w11.cell? ⟨w.heap.size + 1, 3 + 0, none⟩ = some (.string k3) := cw
      replace cb : w11.cell? ⟨w10.heap.size, 0, none⟩ = some (.pointer (some ⟨w.heap.size, 2, none⟩)) := cb
      have tok : Tok 23 := .mk _
      go_wp2_with (first
        | ((have _t : Tok 23 := tok); clear _t; clear tok; (have tok : Tok (23 + 1) := .mk _); go_at_call 39; refine (KF0.out _ hE11.out).mono ?_; rintro e w13 ⟨f, rfl, hx, hf⟩; clear cw cb; (have zP13 := mkHid (hx.blk zP11.out)); (have zS13 := mkHid (hx.blk zS11.out)); (have zB13 := mkHid (hx.blk zB11.out)); (have hp13 := hp11.out.ext hx); (have hq13 := hq11.out.ext hx); (have hE13 := hE11.out.trans hx);
            (obtain ⟨w14, hw14⟩ : ∃ w14, w14 = w13.setRow w.heap.size #[.string nm, .int .u8 kd, .bool f.b1, .slice f.a1 f.n1 f.c1, .bool f.b2, .slice f.a2 f.n2 f.c2, .bool q.b1, .slice q.a1 q.n1 q.c1, .bool q.b2, .slice q.a2 q.n2 q.c2, .int .i64 co] := ⟨_, rfl⟩);
            (have zP14 := mkHid (show w14.heap[w.heap.size]? = some (.cells #[.string nm, .int .u8 kd, .bool f.b1, .slice f.a1 f.n1 f.c1, .bool f.b2, .slice f.a2 f.n2 f.c2, .bool q.b1, .slice q.a1 q.n1 q.c1, .bool q.b2, .slice q.a2 q.n2 q.c2, .int .i64 co] 56 (0, 0)) by rw [hw14]; exact setRow_heap _ _ _ _ _ _ zP13.out));
            (have zS14 := mkHid (show w14.heap[w.heap.size + 1]? = w13.heap[w.heap.size + 1]? by rw [hw14]; exact setRow_other _ _ _ _ (by omega))); replace zS14 := mkHid (zS14.out.trans zS13.out);
            (have zB14 := mkHid (show w14.heap[w10.heap.size]? = w13.heap[w10.heap.size]? by rw [hw14]; exact setRow_other _ _ _ _ (by have := hb11.out; omega))); replace zB14 := mkHid (zB14.out.trans zB13.out);
            (have hl13 := Nat.le_trans hl11.out hx.size); (have hl14 := mkHid (show w.heap.size + 2 ≤ w14.heap.size by rw [hw14]; simpa using hl13));
            (have hp14 := mkHid (show FracO w14 (w.heap.size + 2) (.agg #[.bool p.b1, .slice p.a1 p.n1 p.c1, .bool p.b2, .slice p.a2 p.n2 p.c2]) _ by rw [hw14]; exact hp13.row (by omega) _)); (have hq14 := mkHid (show FracO w14 (w.heap.size + 2) (.agg #[.bool q.b1, .slice q.a1 q.n1 q.c1, .bool q.b2, .slice q.a2 q.n2 q.c2]) _ by rw [hw14]; exact hq13.row (by omega) _)); (have hf14 := mkHid (show FracO w14 (w.heap.size + 2) (.agg #[.bool f.b1, .slice f.a1 f.n1 f.c1, .bool f.b2, .slice f.a2 f.n2 f.c2]) _ by rw [hw14]; exact (hf.mono hl11.out).row (by omega) _)); (have hE14 := mkHid (show Ext w w14 by rw [hw14]; exact hE13.row (Nat.le_refl _) _)); replace hw14 := mkHid hw14; clear hx hf hp13 hq13 hE13 hl13 zS13 zB13 zP11 zS11 zB11 hp11 hq11 hE11)
        | ((have _t : Tok (23 + 1) := tok); clear _t; clear tok; (have tok : Tok (23 + 2) := .mk _); refine wpList_store_sub rfl 52 (.tmp 96) (.tmp 94) rfl w.heap.size 2 rfl 56 #[.string nm, .int .u8 kd, .bool p.b1, .slice p.a1 p.n1 p.c1, .bool p.b2, .slice p.a2 p.n2 p.c2, .bool q.b1, .slice q.a1 q.n1 q.c1, .bool q.b2, .slice q.a2 q.n2 q.c2, .int .i64 co] #[.string nm, .int .u8 kd, .bool f.b1, .slice f.a1 f.n1 f.c1, .bool f.b2, .slice f.a2 f.n2 f.c2, .bool q.b1, .slice q.a1 q.n1 q.c1, .bool q.b2, .slice q.a2 q.n2 q.c2, .int .i64 co] #[.bool f.b1, .slice f.a1 f.n1 f.c1, .bool f.b2, .slice f.a2 f.n2 f.c2] rfl zP13.out (by kernel_rfl) (by simp) (by kernel_rfl) (by kernel_rfl) ?_; rw [← hw14.out]))
      clear tok zP13 hw14
      rw [rounds_succ]
      have zPx := mkHid zP14.out
      have hpx := mkHid hf14.out
      have hqx := mkHid hq14.out
      have hEx := mkHid hE14.out
      clear zP14 hp14 hf14 hq14 hE14 zB14 zS14
      have tok : Tok 30 := .mk _
      go_wp2_with (first
        | ((have _t : Tok 30 := tok); clear _t; clear tok; (have tok : Tok 31 := .mk _); refine wpList_load_row (by rfl) 56 (.tmp 2) rfl w.heap.size rfl 56 #[.string nm, .int .u8 kd, .bool f.b1, .slice f.a1 f.n1 f.c1, .bool f.b2, .slice f.a2 f.n2 f.c2, .bool q.b1, .slice q.a1 q.n1 q.c1, .bool q.b2, .slice q.a2 q.n2 q.c2, .int .i64 co] (0, 0) _ zPx.out Tryz.underlying56 rfl (by kernel_rfl) ?_)
        | ((have _t : Tok 31 := tok); clear _t; clear tok; (have tok : Tok 32 := .mk _); go_at_call 40; refine (KM.out _ f q hpx.out.r hqx.out.r).mono ?_; rintro e w12 ⟨rfl, hx⟩; (have zPy := mkHid (hx.blk zPx.out)); (have hpy := mkHid (hpx.out.ext hx)); (have hqy := mkHid (hqx.out.ext hx)); (have hEy := mkHid (hEx.out.trans hx)); clear hx zPx hpx hqx hEx)
        | ((have _t : Tok 32 := tok); clear _t; clear tok; (have tok : Tok 33 := .mk _); refine wpList_load_row (by rfl) 56 (.tmp 2) rfl w.heap.size rfl 56 #[.string nm, .int .u8 kd, .bool f.b1, .slice f.a1 f.n1 f.c1, .bool f.b2, .slice f.a2 f.n2 f.c2, .bool q.b1, .slice q.a1 q.n1 q.c1, .bool q.b2, .slice q.a2 q.n2 q.c2, .int .i64 co] (0, 0) _ zPy.out Tryz.underlying56 rfl (by kernel_rfl) ?_)
        | ((have _t : Tok 33 := tok); clear _t; clear tok; (have tok : Tok 34 := .mk _); refine wpList_store_row rfl 56 (.tmp 2) (.tmp 106) rfl w.heap.size #[.string nm, .int .u8 kd, .bool f.b1, .slice f.a1 f.n1 f.c1, .bool f.b2, .slice f.a2 f.n2 f.c2, .bool q.b1, .slice q.a1 q.n1 q.c1, .bool q.b2, .slice q.a2 q.n2 q.c2, .int .i64 co] rfl rfl 56 _ zPy.out (by kernel_rfl) rfl (by kernel_rfl) ?_))
      refine bodyPost_ret (results_row_tmp rfl _ _ w.heap.size 56 #[.string nm, .int .u8 kd, .bool f.b1, .slice f.a1 f.n1 f.c1, .bool f.b2, .slice f.a2 f.n2 f.c2, .bool q.b1, .slice q.a1 q.n1 q.c1, .bool q.b2, .slice q.a2 q.n2 q.c2, .int .i64 co] _ _ rfl rfl (setRow_heap _ _ _ _ _ _ zPy.out) Tryz.underlying56 rfl (by kernel_rfl)) rfl ?_
      exact ⟨f, q, rfl, (hpy.out.row (by omega) _).mono (by omega), (hqy.out.row (by omega) _).mono (by omega), hEy.out.row (Nat.le_refl _) _⟩
set_option maxRecDepth 100000 in
set_option maxHeartbeats 6400000 in
theorem read_2
  (s nm : ByteArray) (kd co : Int) (w : World) (hs : s.size ≤ 65536) (hk : 1 ≤ kd ∧ kd ≤ 5) (hco : 0 ≤ co ∧ co ≤ 1073741824) (hnm : nameB nm.data.toList = true) (hm : Max0 w) (ht : Tab10 w)
  (P Q : Rat) (k3 k4 : ByteArray) (h3 : readF k3.data.toList = some P) (nP : nf P ≤ 2048) (l3 : k3.size ≤ 65536) (h4 : readF k4.data.toList = some Q) (nQ : nf Q ≤ 2048) (l4 : k4.size ≤ 65536)
  (hN : wordN kd = 2) (hw : wordsL 32 s.data.toList = [nm, ⟨(Lib.itoa co).toArray⟩, ⟨(wordB kd).toArray⟩, k3, k4].map (·.data.toList)) (hmy : mayP kd co (some P) (some Q) = true) :
    Calls Tryz.prog 16 #[.string s] w (PartQ w ⟨nm, kd, P, Q, co⟩) := by
  have KM := mkHid (fun (W : World) (p q : FV) (h1 : FracR W (.agg #[.bool p.b1, .slice p.a1 p.n1 p.c1, .bool p.b2, .slice p.a2 p.n2 p.c2]) (P)) (h2 : FracR W (.agg #[.bool q.b1, .slice q.a1 q.n1 q.c1, .bool q.b2, .slice q.a2 q.n2 q.c2]) (Q)) => (by have := may_v nm kd co p q (some (P)) (some (Q)) W (by have := h1.any (Nat.le_trans nP (by decide)); rwa [if_pos nP] at this) (by have := h2.any (Nat.le_trans nQ (by decide)); rwa [if_pos nQ] at this); rw [hmy] at this; exact this : Calls Tryz.prog 40 #[.agg #[.string nm, .int .u8 kd, .bool p.b1, .slice p.a1 p.n1 p.c1, .bool p.b2, .slice p.a2 p.n2 p.c2, .bool q.b1, .slice q.a1 q.n1 q.c1, .bool q.b2, .slice q.a2 q.n2 q.c2, .int .i64 co]] W fun e w' => e = .returned (.bool true) ∧ Ext W w'))
  have KF0 := mkHid (fun W (e : Ext w W) => frac_ok k3 P W l3 (hm.ext e) h3 nP)
  have KF1 := mkHid (fun W (e : Ext w W) => frac_ok k4 Q W l4 (hm.ext e) h4 nQ)
  clear h3 nP l3 h4 nQ l4
  obtain ⟨w1, hw1⟩ : ∃ w1, w1 = w.alloc (.cells #[.string ⟨#[]⟩, .int .u8 0, .bool false, .slice none 0 0, .bool false, .slice none 0 0, .bool false, .slice none 0 0, .bool false, .slice none 0 0, .int .i64 0] 56) := ⟨_, rfl⟩
  have hE1 : Ext w w1 := by rw [hw1]; exact (Ext.refl w).al _
  have zP1 : w1.heap[w.heap.size]? = some (.cells #[.string ⟨#[]⟩, .int .u8 0, .bool false, .slice none 0 0, .bool false, .slice none 0 0, .bool false, .slice none 0 0, .bool false, .slice none 0 0, .int .i64 0] 56 (0, 0)) := by rw [hw1]; exact heap_alloc_new _ _
  have hsz1 : w1.heap.size = w.heap.size + 1 := by rw [hw1]; simp
  obtain ⟨cs, hcs⟩ : ∃ cs : ByteArray, cs = ⟨(Lib.itoa co).toArray⟩ := ⟨_, rfl⟩
  obtain ⟨kw, hkw⟩ : ∃ kw : ByteArray, kw = ⟨(wordB kd).toArray⟩ := ⟨_, rfl⟩
  rw [← hcs, ← hkw] at hw
  have KS := split_ws s w1 hs (hm.ext hE1) [nm, cs, kw, k3, k4] hw
  rw [hsz1] at KS
  have KS : Calls Tryz.prog 35 #[.string s, .string ⟨#[32]⟩] w1 fun e w2 => e = .returned (.slice (some ⟨w.heap.size + 1, 0, none⟩) 5 5) ∧ w2.heap[w.heap.size + 1]? = some (.cells #[.string nm, .string cs, .string kw, .string k3, .string k4] 9 (0, 0)) ∧ w2.heap.size = w.heap.size + 2 ∧ Ext w1 w2 := KS
  replace KS := mkHid KS
  have KN := mkHid (fun W => nought_f W)
  have KU := mkHid (fun W (e : Ext w W) => number_ok co W hco.1 hco.2 (tab_ext ht e))
  have KD := mkHid (fun W => (by have := named_c nm W (by have := hnm; unfold nameB at this; simp only [Bool.and_eq_true, decide_eq_true_eq] at this; have h2 := this.2.1; rw [list_size] at h2; omega); rw [hnm] at this; exact this : Calls Tryz.prog 38 #[.string nm] W fun e w' => e = .returned (.bool true) ∧ Ext W w'))
  have hMx := mkHid (fun W (e : Ext w W) => hm.ext e)
  rw [← hcs] at KU
  replace hkw := mkHid hkw
  replace zP1 := mkHid zP1
  replace hE1 := mkHid hE1
  replace hw1 := mkHid hw1
  replace hsz1 := mkHid hsz1
  clear hcs hm ht hw hs hnm hco
  go_enter Tryz.func16, Tryz.ntmps16
  have tok : Tok 0 := .mk _
  go_wp2_with (first
    | ((have _t : Tok 0 := tok); clear _t; clear tok; (have tok : Tok 1 := .mk _); go_at_call 35; rw [← hw1.out]; refine KS.out.mono ?_; rintro e w2 ⟨rfl, zS2, hsz2, hx2⟩; (have zP2 := mkHid (hx2.blk zP1.out)); (have hE2 := mkHid (hE1.out.trans hx2)); replace zS2 := mkHid zS2; replace hsz2 := mkHid hsz2; clear hx2)
    | ((have _t : Tok 1 := tok); clear _t; clear tok; (have tok : Tok 2 := .mk _); go_at_call 36; refine (KN.out _).mono ?_; rintro e w3 ⟨vp, rfl, hx3, hp3⟩; (obtain ⟨p, rfl⟩ := hp3.r.fv); (have zP3 := mkHid (hx3.blk zP2.out)); (have zS3 := mkHid (hx3.blk zS2.out)); replace hp3 := mkHid (hp3.mono (Nat.le_of_eq hsz2.out.symm)); (have hE3 := mkHid (hE2.out.trans hx3)); (have hl3 := mkHid (show w.heap.size + 2 ≤ w3.heap.size by rw [← hsz2.out]; exact hx3.size)); clear hx3)
    | ((have _t : Tok 2 := tok); clear _t; clear tok; (have tok : Tok 3 := .mk _); go_at_call 36; refine (KN.out _).mono ?_; rintro e w4 ⟨vq, rfl, hx4, hq4⟩; (obtain ⟨q, rfl⟩ := hq4.r.fv); (have zP4 := hx4.blk zP3.out); (have zS4 := hx4.blk zS3.out); replace hq4 := hq4.mono hl3.out;
        (obtain ⟨w5, hw5⟩ : ∃ w5, w5 = w4.setRow w.heap.size #[.string ⟨#[]⟩, .int .u8 0, .bool p.b1, .slice p.a1 p.n1 p.c1, .bool p.b2, .slice p.a2 p.n2 p.c2, .bool false, .slice none 0 0, .bool false, .slice none 0 0, .int .i64 0] := ⟨_, rfl⟩);
        (have zP5 := mkHid (show w5.heap[w.heap.size]? = some (.cells #[.string ⟨#[]⟩, .int .u8 0, .bool p.b1, .slice p.a1 p.n1 p.c1, .bool p.b2, .slice p.a2 p.n2 p.c2, .bool false, .slice none 0 0, .bool false, .slice none 0 0, .int .i64 0] 56 (0, 0)) by rw [hw5]; exact setRow_heap _ _ _ _ _ _ zP4));
        (obtain ⟨w6, hw6⟩ : ∃ w6, w6 = w5.setRow w.heap.size #[.string ⟨#[]⟩, .int .u8 0, .bool p.b1, .slice p.a1 p.n1 p.c1, .bool p.b2, .slice p.a2 p.n2 p.c2, .bool q.b1, .slice q.a1 q.n1 q.c1, .bool q.b2, .slice q.a2 q.n2 q.c2, .int .i64 0] := ⟨_, rfl⟩);
        (have zP6 := mkHid (show w6.heap[w.heap.size]? = some (.cells #[.string ⟨#[]⟩, .int .u8 0, .bool p.b1, .slice p.a1 p.n1 p.c1, .bool p.b2, .slice p.a2 p.n2 p.c2, .bool q.b1, .slice q.a1 q.n1 q.c1, .bool q.b2, .slice q.a2 q.n2 q.c2, .int .i64 0] 56 (0, 0)) by rw [hw6]; exact setRow_heap _ _ _ _ _ _ zP5.out));
        (have zS6 := mkHid (show w6.heap[w.heap.size + 1]? = some (.cells #[.string nm, .string cs, .string kw, .string k3, .string k4] 9 (0, 0)) by rw [hw6, setRow_other _ _ _ _ (by omega), hw5, setRow_other _ _ _ _ (by omega)]; exact zS4));
        (have hE6 := mkHid (show Ext w w6 by rw [hw6, hw5]; exact ((hE3.out.trans hx4).row (Nat.le_refl _) _).row (Nat.le_refl _) _));
        (have hp6 := mkHid (show FracO w6 (w.heap.size + 2) (.agg #[.bool p.b1, .slice p.a1 p.n1 p.c1, .bool p.b2, .slice p.a2 p.n2 p.c2]) 0 by rw [hw6, hw5]; exact ((hp3.out.ext hx4).row (by omega) _).row (by omega) _));
        (have hq6 := mkHid (show FracO w6 (w.heap.size + 2) (.agg #[.bool q.b1, .slice q.a1 q.n1 q.c1, .bool q.b2, .slice q.a2 q.n2 q.c2]) 0 by rw [hw6, hw5]; exact (hq4.row (by omega) _).row (by omega) _));
        replace zP4 := mkHid zP4; replace hw5 := mkHid hw5; replace hw6 := mkHid hw6; clear hx4 hq4 zS4)
    | ((have _t : Tok 3 := tok); clear _t; clear tok; (have tok : Tok 4 := .mk _); refine wpList_store_sub rfl 52 (.tmp 17) (.tmp 14) rfl w.heap.size 2 rfl 56 #[.string ⟨#[]⟩, .int .u8 0, .bool false, .slice none 0 0, .bool false, .slice none 0 0, .bool false, .slice none 0 0, .bool false, .slice none 0 0, .int .i64 0] #[.string ⟨#[]⟩, .int .u8 0, .bool p.b1, .slice p.a1 p.n1 p.c1, .bool p.b2, .slice p.a2 p.n2 p.c2, .bool false, .slice none 0 0, .bool false, .slice none 0 0, .int .i64 0] #[.bool p.b1, .slice p.a1 p.n1 p.c1, .bool p.b2, .slice p.a2 p.n2 p.c2] rfl zP4.out (by kernel_rfl) (by simp) (by kernel_rfl) (by kernel_rfl) ?_; rw [← hw5.out])
    | ((have _t : Tok 4 := tok); clear _t; clear tok; (have tok : Tok 5 := .mk _); refine wpList_store_sub rfl 52 (.tmp 19) (.tmp 15) rfl w.heap.size 6 rfl 56 #[.string ⟨#[]⟩, .int .u8 0, .bool p.b1, .slice p.a1 p.n1 p.c1, .bool p.b2, .slice p.a2 p.n2 p.c2, .bool false, .slice none 0 0, .bool false, .slice none 0 0, .int .i64 0] #[.string ⟨#[]⟩, .int .u8 0, .bool p.b1, .slice p.a1 p.n1 p.c1, .bool p.b2, .slice p.a2 p.n2 p.c2, .bool q.b1, .slice q.a1 q.n1 q.c1, .bool q.b2, .slice q.a2 q.n2 q.c2, .int .i64 0] #[.bool q.b1, .slice q.a1 q.n1 q.c1, .bool q.b2, .slice q.a2 q.n2 q.c2] rfl zP5.out (by kernel_rfl) (by simp) (by kernel_rfl) (by kernel_rfl) ?_; rw [← hw6.out]))
  clear tok KS KN hw1 hw5 hw6 zP1 zP2 zP4 zP5 zS2 zS3 zP3 hp3 hE1 hE2 hE3 hsz1 hsz2 hl3
  obtain ⟨w7, hw7⟩ : ∃ w7, w7 = w6.setCell ⟨w.heap.size, 1, none⟩ (.int .u8 kd) := ⟨_, rfl⟩
  have zP7 := mkHid (show w7.heap[w.heap.size]? = some (.cells #[.string ⟨#[]⟩, .int .u8 kd, .bool p.b1, .slice p.a1 p.n1 p.c1, .bool p.b2, .slice p.a2 p.n2 p.c2, .bool q.b1, .slice q.a1 q.n1 q.c1, .bool q.b2, .slice q.a2 q.n2 q.c2, .int .i64 0] 56 (0, 0)) by rw [hw7]; exact heap_setCell_same _ _ _ _ _ _ zP6.out)
  have zS7 := mkHid (show w7.heap[w.heap.size + 1]? = some (.cells #[.string nm, .string cs, .string kw, .string k3, .string k4] 9 (0, 0)) by rw [hw7, heap_setCell_other _ _ _ _ (by simp)]; exact zS6.out)
  have hp7 := mkHid (show FracO w7 (w.heap.size + 2) (.agg #[.bool p.b1, .slice p.a1 p.n1 p.c1, .bool p.b2, .slice p.a2 p.n2 p.c2]) 0 by rw [hw7]; exact hp6.out.near fun k hk => heap_setCell_other _ _ _ _ (fun e => by have e' : k = w.heap.size := e; have := (hp6.out.span k hk).1; omega))
  have hq7 := mkHid (show FracO w7 (w.heap.size + 2) (.agg #[.bool q.b1, .slice q.a1 q.n1 q.c1, .bool q.b2, .slice q.a2 q.n2 q.c2]) 0 by rw [hw7]; exact hq6.out.near fun k hk => heap_setCell_other _ _ _ _ (fun e => by have e' : k = w.heap.size := e; have := (hq6.out.span k hk).1; omega))
  have hE7 := mkHid (show Ext w w7 by rw [hw7]; exact hE6.out.st (Nat.le_refl _) _)
  have d1 : w6.cell? ⟨w.heap.size, 1, none⟩ = some (.int .u8 0) := row16_cells zP6.out 1
  have f1 : w6.frozen? ⟨w.heap.size, 1, none⟩ = false := frozen_of_row _ _ _ _ _ zP6.out
  replace d1 := mkHid d1
  replace f1 := mkHid f1
  replace hw7 := mkHid hw7
  have st : KdR kd 2 w6 w7 (.int .i64 (-1)) (.int .u8 1) w6 := ⟨1, by omega, by omega, rfl, .inr ⟨hk.1, rfl, rfl⟩⟩
  replace st := mkHid st
  clear hp6 hq6 hE6 zP6
  go_loopw [5, 6] (fun t5 t6 wr => KdR kd 2 w6 w7 t5 t6 wr) (fun _ t6 _ => 6 - (intOf t6).toNat)
  case atStart => exact st.out
  case round =>
    clear st
    obtain ⟨k, hk1, hk6, rfl, hcase⟩ := hrel
    by_cases hk5 : k ≤ 5
    · rcases hcase with ⟨hKk, rfl, rfl⟩ | ⟨hkK, rfl, rfl⟩
      · have c2 : (wr).cell? ⟨w.heap.size + 1, 2, none⟩ = some (.string kw) := row16_cells zS7.out 2
        have KX := word_c (k : Int) (wr)
        have hq := word_eq (i := (k : Int)) (k := kd) ⟨by omega, by omega⟩ hk
        rw [← hkw.out] at hq
        rw [decide_eq_false (by omega)] at hq
        obtain ⟨sk, hsk⟩ : ∃ sk : ByteArray, sk = ⟨(wordB (k : Int)).toArray⟩ := ⟨_, rfl⟩
        rw [← hsk] at hq KX
        replace KX := mkHid KX
        clear hsk
        go_wp2_with (go_at_call 19; refine KX.out.mono ?_; rintro e w' ⟨rfl, hw'⟩; rw [← hw']; clear hw')
        refine ⟨⟨k + 1, by omega, by omega, by go_num, .inl ⟨by omega, rfl, rfl⟩⟩, by simp [intOf]; omega⟩
      · by_cases hkk : (k : Int) = kd
        · have c2 : (wr).cell? ⟨w.heap.size + 1, 2, none⟩ = some (.string kw) := row16_cells zS6.out 2
          have KX := word_c (k : Int) (wr)
          have hq := word_eq (i := (k : Int)) (k := kd) ⟨by omega, by omega⟩ hk
          rw [← hkw.out] at hq
          rw [decide_eq_true hkk] at hq
          obtain ⟨sk, hsk⟩ : ∃ sk : ByteArray, sk = ⟨(wordB (k : Int)).toArray⟩ := ⟨_, rfl⟩
          rw [← hsk] at hq KX
          rw [hkk, hN] at KX
          rw [hkk]
          replace KX := mkHid KX
          have hd1 := d1.out
          have hf1 := f1.out
          replace hkk := mkHid hkk
          clear hsk
          go_wp2_with (go_at_call 19; refine KX.out.mono ?_; rintro e w' ⟨rfl, hw'⟩; rw [← hw']; clear hw')
          rw [← hw7.out]
          have := hkk.out
          refine ⟨⟨k + 1, by omega, by omega, by rw [← this]; go_num, .inl ⟨by omega, rfl, rfl⟩⟩, by simp [intOf]; omega⟩
        · have c2 : (wr).cell? ⟨w.heap.size + 1, 2, none⟩ = some (.string kw) := row16_cells zS6.out 2
          have KX := word_c (k : Int) (wr)
          have hq := word_eq (i := (k : Int)) (k := kd) ⟨by omega, by omega⟩ hk
          rw [← hkw.out] at hq
          rw [decide_eq_false hkk] at hq
          obtain ⟨sk, hsk⟩ : ∃ sk : ByteArray, sk = ⟨(wordB (k : Int)).toArray⟩ := ⟨_, rfl⟩
          rw [← hsk] at hq KX
          replace KX := mkHid KX
          clear hsk
          go_wp2_with (go_at_call 19; refine KX.out.mono ?_; rintro e w' ⟨rfl, hw'⟩; rw [← hw']; clear hw')
          refine ⟨⟨k + 1, by omega, by omega, by go_num, .inr ⟨by omega, rfl, rfl⟩⟩, by simp [intOf]; omega⟩
    · obtain rfl : k = 6 := by omega
      rcases hcase with ⟨hKk, rfl, rfl⟩ | ⟨hkK, rfl, rfl⟩
      case inr => exfalso; omega
      clear hKk hk1 hk6 hk5 d1 f1 hw7 zS6
      have c1 : wr.cell? ⟨w.heap.size + 1, 1, none⟩ = some (.string cs) := row16_cells zS7.out 1
      have tok : Tok 20 := .mk _
      go_wp2_with (first
        | ((have _t : Tok 20 := tok); clear _t; clear tok; (have tok : Tok 21 := .mk _); go_at_call 37; refine (KU.out _ hE7.out).mono ?_; rintro e w8 ⟨rfl, hx8⟩; clear c1; (have zP8 := mkHid (hx8.blk zP7.out)); (have zS8 := mkHid (hx8.blk zS7.out)); (have hp8 := mkHid (hp7.out.ext hx8)); (have hq8 := mkHid (hq7.out.ext hx8)); (have hE8 := mkHid (hE7.out.trans hx8)); (have d10 : w8.cell? ⟨w.heap.size, 10, none⟩ = some (.int .i64 0) := row16_cells zP8.out 10); (have f10 : w8.frozen? ⟨w.heap.size, 10, none⟩ = false := frozen_of_row _ _ _ _ _ zP8.out); (have c0 : w8.cell? ⟨w.heap.size + 1, 0, none⟩ = some (.string nm) := row16_cells zS8.out 0); (have d0 : w8.cell? ⟨w.heap.size, 0, none⟩ = some (.string ⟨#[]⟩) := row16_cells zP8.out 0); (have f0 : w8.frozen? ⟨w.heap.size, 0, none⟩ = false := frozen_of_row _ _ _ _ _ zP8.out); clear hx8)
        | ((have _t : Tok 21 := tok); clear _t; clear tok; (have tok : Tok 22 := .mk _); go_at_call 38;
            (obtain ⟨w9, hw9⟩ : ∃ w9, w9 = (w8.setCell ⟨w.heap.size, 10, none⟩ (.int .i64 co)).setCell ⟨w.heap.size, 0, none⟩ (.string nm) := ⟨_, rfl⟩); rw [← hw9];
            (have zP9 : w9.heap[w.heap.size]? = some (.cells #[.string nm, .int .u8 kd, .bool p.b1, .slice p.a1 p.n1 p.c1, .bool p.b2, .slice p.a2 p.n2 p.c2, .bool q.b1, .slice q.a1 q.n1 q.c1, .bool q.b2, .slice q.a2 q.n2 q.c2, .int .i64 co] 56 (0, 0)) := by rw [hw9]; exact heap_setCell_same _ _ _ _ _ _ (heap_setCell_same _ _ _ _ _ _ zP8.out));
            (have hnear : ∀ k, k ≠ w.heap.size → w9.heap[k]? = w8.heap[k]? := fun k hk => by rw [hw9]; exact (heap_setCell_other _ _ _ _ hk).trans (heap_setCell_other _ _ _ _ hk));
            (have hp9 : FracO w9 (w.heap.size + 2) (.agg #[.bool p.b1, .slice p.a1 p.n1 p.c1, .bool p.b2, .slice p.a2 p.n2 p.c2]) 0 := hp8.out.near fun k hk => hnear k (fun e => by have := (hp8.out.span k hk).1; omega));
            (have hq9 : FracO w9 (w.heap.size + 2) (.agg #[.bool q.b1, .slice q.a1 q.n1 q.c1, .bool q.b2, .slice q.a2 q.n2 q.c2]) 0 := hq8.out.near fun k hk => hnear k (fun e => by have := (hq8.out.span k hk).1; omega));
            (have zS9 := (hnear (w.heap.size + 1) (by omega)).trans zS8.out);
            (have hE9 : Ext w w9 := by rw [hw9]; exact (hE8.out.st (Nat.le_refl _) _).st (Nat.le_refl _) _);
            refine (KD.out _).mono ?_; rintro e w10 ⟨rfl, hx⟩; (have zP10 := mkHid (hx.blk zP9)); (have zS10 := mkHid (hx.blk zS9)); (have hp10 := mkHid (hp9.ext hx)); (have hq10 := mkHid (hq9.ext hx)); (have hE10 := mkHid (hE9.trans hx)); clear hx zP9 zS9 hp9 hq9 hE9 hnear hw9 d10 f10 c0 d0 f0 zP8 zS8 hp8 hq8 hE8))
      clear tok KU KD zP7 zS7 hp7 hq7 hE7
      obtain ⟨w11, hw11⟩ : ∃ w11, w11 = w10.alloc (.cells #[.pointer (some ⟨w.heap.size, 2, none⟩), .pointer (some ⟨w.heap.size, 6, none⟩)] 94) := ⟨_, rfl⟩
      rw [← hw11]
      have hx11 : Ext w10 w11 := by rw [hw11]; exact (Ext.refl _).al _
      have zB11 := mkHid (show w11.heap[w10.heap.size]? = some (.cells #[.pointer (some ⟨w.heap.size, 2, none⟩), .pointer (some ⟨w.heap.size, 6, none⟩)] 94 (0, 0)) by rw [hw11]; exact heap_alloc_new _ _)
      have zP11 := mkHid (hx11.blk zP10.out)
      have zS11 := mkHid (hx11.blk zS10.out)
      have hp11 := mkHid (hp10.out.ext hx11)
      have hq11 := mkHid (hq10.out.ext hx11)
      have hE11 := mkHid (hE10.out.trans hx11)
      have hb11 := mkHid (show w.heap.size < w10.heap.size from (Array.getElem?_eq_some_iff.1 zP10.out).1)
      have hl11 := mkHid (show w.heap.size + 2 ≤ w11.heap.size by have := (Array.getElem?_eq_some_iff.1 zS10.out).1; have := hx11.size; omega)
      clear hx11 hw11 zP10 zS10 hp10 hq10 hE10
      refine wp_loop_rounds 3 ?_
      rw [rounds_succ]
      have cw := row16_cells zS11.out (3 + 0)
      have cb := row16_cells zB11.out 0
      replace cw : w11.cell? ⟨w.heap.size + 1, 3 + 0, none⟩ = some (.string k3) := cw
      replace cb : w11.cell? ⟨w10.heap.size, 0, none⟩ = some (.pointer (some ⟨w.heap.size, 2, none⟩)) := cb
      have tok : Tok 23 := .mk _
      go_wp2_with (first
        | ((have _t : Tok 23 := tok); clear _t; clear tok; (have tok : Tok (23 + 1) := .mk _); go_at_call 39; refine (KF0.out _ hE11.out).mono ?_; rintro e w13 ⟨f, rfl, hx, hf⟩; clear cw cb; (have zP13 := mkHid (hx.blk zP11.out)); (have zS13 := mkHid (hx.blk zS11.out)); (have zB13 := mkHid (hx.blk zB11.out)); (have hp13 := hp11.out.ext hx); (have hq13 := hq11.out.ext hx); (have hE13 := hE11.out.trans hx);
            (obtain ⟨w14, hw14⟩ : ∃ w14, w14 = w13.setRow w.heap.size #[.string nm, .int .u8 kd, .bool f.b1, .slice f.a1 f.n1 f.c1, .bool f.b2, .slice f.a2 f.n2 f.c2, .bool q.b1, .slice q.a1 q.n1 q.c1, .bool q.b2, .slice q.a2 q.n2 q.c2, .int .i64 co] := ⟨_, rfl⟩);
            (have zP14 := mkHid (show w14.heap[w.heap.size]? = some (.cells #[.string nm, .int .u8 kd, .bool f.b1, .slice f.a1 f.n1 f.c1, .bool f.b2, .slice f.a2 f.n2 f.c2, .bool q.b1, .slice q.a1 q.n1 q.c1, .bool q.b2, .slice q.a2 q.n2 q.c2, .int .i64 co] 56 (0, 0)) by rw [hw14]; exact setRow_heap _ _ _ _ _ _ zP13.out));
            (have zS14 := mkHid (show w14.heap[w.heap.size + 1]? = w13.heap[w.heap.size + 1]? by rw [hw14]; exact setRow_other _ _ _ _ (by omega))); replace zS14 := mkHid (zS14.out.trans zS13.out);
            (have zB14 := mkHid (show w14.heap[w10.heap.size]? = w13.heap[w10.heap.size]? by rw [hw14]; exact setRow_other _ _ _ _ (by have := hb11.out; omega))); replace zB14 := mkHid (zB14.out.trans zB13.out);
            (have hl13 := Nat.le_trans hl11.out hx.size); (have hl14 := mkHid (show w.heap.size + 2 ≤ w14.heap.size by rw [hw14]; simpa using hl13));
            (have hp14 := mkHid (show FracO w14 (w.heap.size + 2) (.agg #[.bool p.b1, .slice p.a1 p.n1 p.c1, .bool p.b2, .slice p.a2 p.n2 p.c2]) _ by rw [hw14]; exact hp13.row (by omega) _)); (have hq14 := mkHid (show FracO w14 (w.heap.size + 2) (.agg #[.bool q.b1, .slice q.a1 q.n1 q.c1, .bool q.b2, .slice q.a2 q.n2 q.c2]) _ by rw [hw14]; exact hq13.row (by omega) _)); (have hf14 := mkHid (show FracO w14 (w.heap.size + 2) (.agg #[.bool f.b1, .slice f.a1 f.n1 f.c1, .bool f.b2, .slice f.a2 f.n2 f.c2]) _ by rw [hw14]; exact (hf.mono hl11.out).row (by omega) _)); (have hE14 := mkHid (show Ext w w14 by rw [hw14]; exact hE13.row (Nat.le_refl _) _)); replace hw14 := mkHid hw14; clear hx hf hp13 hq13 hE13 hl13 zS13 zB13 zP11 zS11 zB11 hp11 hq11 hE11)
        | ((have _t : Tok (23 + 1) := tok); clear _t; clear tok; (have tok : Tok (23 + 2) := .mk _); refine wpList_store_sub rfl 52 (.tmp 96) (.tmp 94) rfl w.heap.size 2 rfl 56 #[.string nm, .int .u8 kd, .bool p.b1, .slice p.a1 p.n1 p.c1, .bool p.b2, .slice p.a2 p.n2 p.c2, .bool q.b1, .slice q.a1 q.n1 q.c1, .bool q.b2, .slice q.a2 q.n2 q.c2, .int .i64 co] #[.string nm, .int .u8 kd, .bool f.b1, .slice f.a1 f.n1 f.c1, .bool f.b2, .slice f.a2 f.n2 f.c2, .bool q.b1, .slice q.a1 q.n1 q.c1, .bool q.b2, .slice q.a2 q.n2 q.c2, .int .i64 co] #[.bool f.b1, .slice f.a1 f.n1 f.c1, .bool f.b2, .slice f.a2 f.n2 f.c2] rfl zP13.out (by kernel_rfl) (by simp) (by kernel_rfl) (by kernel_rfl) ?_; rw [← hw14.out]))
      clear tok zP13 hw14
      clear hp14
      have hp14 := mkHid hf14.out
      clear hf14
      rw [rounds_succ]
      have cw := row16_cells zS14.out (3 + 1)
      have cb := row16_cells zB14.out 1
      replace cw : w14.cell? ⟨w.heap.size + 1, 3 + 1, none⟩ = some (.string k4) := cw
      replace cb : w14.cell? ⟨w10.heap.size, 1, none⟩ = some (.pointer (some ⟨w.heap.size, 6, none⟩)) := cb
      have tok : Tok 26 := .mk _
      go_wp2_with (first
        | ((have _t : Tok 26 := tok); clear _t; clear tok; (have tok : Tok (26 + 1) := .mk _); go_at_call 39; refine (KF1.out _ hE14.out).mono ?_; rintro e w15 ⟨g, rfl, hx, hf⟩; clear cw cb; (have zP15 := mkHid (hx.blk zP14.out)); (have zS15 := mkHid (hx.blk zS14.out)); (have zB15 := mkHid (hx.blk zB14.out)); (have hp15 := hp14.out.ext hx); (have hq15 := hq14.out.ext hx); (have hE15 := hE14.out.trans hx);
            (obtain ⟨w16, hw16⟩ : ∃ w16, w16 = w15.setRow w.heap.size #[.string nm, .int .u8 kd, .bool f.b1, .slice f.a1 f.n1 f.c1, .bool f.b2, .slice f.a2 f.n2 f.c2, .bool g.b1, .slice g.a1 g.n1 g.c1, .bool g.b2, .slice g.a2 g.n2 g.c2, .int .i64 co] := ⟨_, rfl⟩);
            (have zP16 := mkHid (show w16.heap[w.heap.size]? = some (.cells #[.string nm, .int .u8 kd, .bool f.b1, .slice f.a1 f.n1 f.c1, .bool f.b2, .slice f.a2 f.n2 f.c2, .bool g.b1, .slice g.a1 g.n1 g.c1, .bool g.b2, .slice g.a2 g.n2 g.c2, .int .i64 co] 56 (0, 0)) by rw [hw16]; exact setRow_heap _ _ _ _ _ _ zP15.out));
            (have zS16 := mkHid (show w16.heap[w.heap.size + 1]? = w15.heap[w.heap.size + 1]? by rw [hw16]; exact setRow_other _ _ _ _ (by omega))); replace zS16 := mkHid (zS16.out.trans zS15.out);
            (have zB16 := mkHid (show w16.heap[w10.heap.size]? = w15.heap[w10.heap.size]? by rw [hw16]; exact setRow_other _ _ _ _ (by have := hb11.out; omega))); replace zB16 := mkHid (zB16.out.trans zB15.out);
            (have hl15 := Nat.le_trans hl14.out hx.size); (have hl16 := mkHid (show w.heap.size + 2 ≤ w16.heap.size by rw [hw16]; simpa using hl15));
            (have hp16 := mkHid (show FracO w16 (w.heap.size + 2) (.agg #[.bool f.b1, .slice f.a1 f.n1 f.c1, .bool f.b2, .slice f.a2 f.n2 f.c2]) _ by rw [hw16]; exact hp15.row (by omega) _)); (have hq16 := mkHid (show FracO w16 (w.heap.size + 2) (.agg #[.bool q.b1, .slice q.a1 q.n1 q.c1, .bool q.b2, .slice q.a2 q.n2 q.c2]) _ by rw [hw16]; exact hq15.row (by omega) _)); (have hf16 := mkHid (show FracO w16 (w.heap.size + 2) (.agg #[.bool g.b1, .slice g.a1 g.n1 g.c1, .bool g.b2, .slice g.a2 g.n2 g.c2]) _ by rw [hw16]; exact (hf.mono hl14.out).row (by omega) _)); (have hE16 := mkHid (show Ext w w16 by rw [hw16]; exact hE15.row (Nat.le_refl _) _)); replace hw16 := mkHid hw16; clear hx hf hp15 hq15 hE15 hl15 zS15 zB15 zP14 zS14 zB14 hp14 hq14 hE14)
        | ((have _t : Tok (26 + 1) := tok); clear _t; clear tok; (have tok : Tok (26 + 2) := .mk _); refine wpList_store_sub rfl 52 (.tmp 96) (.tmp 94) rfl w.heap.size 6 rfl 56 #[.string nm, .int .u8 kd, .bool f.b1, .slice f.a1 f.n1 f.c1, .bool f.b2, .slice f.a2 f.n2 f.c2, .bool q.b1, .slice q.a1 q.n1 q.c1, .bool q.b2, .slice q.a2 q.n2 q.c2, .int .i64 co] #[.string nm, .int .u8 kd, .bool f.b1, .slice f.a1 f.n1 f.c1, .bool f.b2, .slice f.a2 f.n2 f.c2, .bool g.b1, .slice g.a1 g.n1 g.c1, .bool g.b2, .slice g.a2 g.n2 g.c2, .int .i64 co] #[.bool g.b1, .slice g.a1 g.n1 g.c1, .bool g.b2, .slice g.a2 g.n2 g.c2] rfl zP15.out (by kernel_rfl) (by simp) (by kernel_rfl) (by kernel_rfl) ?_; rw [← hw16.out]))
      clear tok zP15 hw16
      rw [rounds_succ]
      have zPx := mkHid zP16.out
      have hpx := mkHid hp16.out
      have hqx := mkHid hf16.out
      have hEx := mkHid hE16.out
      clear zP16 hp16 hf16 hq16 hE16 zB16 zS16
      have tok : Tok 30 := .mk _
      go_wp2_with (first
        | ((have _t : Tok 30 := tok); clear _t; clear tok; (have tok : Tok 31 := .mk _); refine wpList_load_row (by rfl) 56 (.tmp 2) rfl w.heap.size rfl 56 #[.string nm, .int .u8 kd, .bool f.b1, .slice f.a1 f.n1 f.c1, .bool f.b2, .slice f.a2 f.n2 f.c2, .bool g.b1, .slice g.a1 g.n1 g.c1, .bool g.b2, .slice g.a2 g.n2 g.c2, .int .i64 co] (0, 0) _ zPx.out Tryz.underlying56 rfl (by kernel_rfl) ?_)
        | ((have _t : Tok 31 := tok); clear _t; clear tok; (have tok : Tok 32 := .mk _); go_at_call 40; refine (KM.out _ f g hpx.out.r hqx.out.r).mono ?_; rintro e w12 ⟨rfl, hx⟩; (have zPy := mkHid (hx.blk zPx.out)); (have hpy := mkHid (hpx.out.ext hx)); (have hqy := mkHid (hqx.out.ext hx)); (have hEy := mkHid (hEx.out.trans hx)); clear hx zPx hpx hqx hEx)
        | ((have _t : Tok 32 := tok); clear _t; clear tok; (have tok : Tok 33 := .mk _); refine wpList_load_row (by rfl) 56 (.tmp 2) rfl w.heap.size rfl 56 #[.string nm, .int .u8 kd, .bool f.b1, .slice f.a1 f.n1 f.c1, .bool f.b2, .slice f.a2 f.n2 f.c2, .bool g.b1, .slice g.a1 g.n1 g.c1, .bool g.b2, .slice g.a2 g.n2 g.c2, .int .i64 co] (0, 0) _ zPy.out Tryz.underlying56 rfl (by kernel_rfl) ?_)
        | ((have _t : Tok 33 := tok); clear _t; clear tok; (have tok : Tok 34 := .mk _); refine wpList_store_row rfl 56 (.tmp 2) (.tmp 106) rfl w.heap.size #[.string nm, .int .u8 kd, .bool f.b1, .slice f.a1 f.n1 f.c1, .bool f.b2, .slice f.a2 f.n2 f.c2, .bool g.b1, .slice g.a1 g.n1 g.c1, .bool g.b2, .slice g.a2 g.n2 g.c2, .int .i64 co] rfl rfl 56 _ zPy.out (by kernel_rfl) rfl (by kernel_rfl) ?_))
      refine bodyPost_ret (results_row_tmp rfl _ _ w.heap.size 56 #[.string nm, .int .u8 kd, .bool f.b1, .slice f.a1 f.n1 f.c1, .bool f.b2, .slice f.a2 f.n2 f.c2, .bool g.b1, .slice g.a1 g.n1 g.c1, .bool g.b2, .slice g.a2 g.n2 g.c2, .int .i64 co] _ _ rfl rfl (setRow_heap _ _ _ _ _ _ zPy.out) Tryz.underlying56 rfl (by kernel_rfl)) rfl ?_
      exact ⟨f, g, rfl, (hpy.out.row (by omega) _).mono (by omega), (hqy.out.row (by omega) _).mono (by omega), hEy.out.row (Nat.le_refl _) _⟩
/-- **read at a line that tells of a part.** -/
theorem read_line (d : PD) (w : World) (hd : okPD d) (hl : (lineT d).length ≤ 65536) (hm : Max0 w) (ht : Tab10 w) :
    Calls Tryz.prog 16 #[.string ⟨(lineT d).toArray⟩] w (PartQ w d) := by
  have hw := words_line d hd.2.2.1
  have hsz : (⟨(lineT d).toArray⟩ : ByteArray).size ≤ 65536 := by rw [str_len]; exact hl
  obtain ⟨n1, n2⟩ := okPD_nought hd
  have hk := okPD_kd hd
  have hx : ∀ x ∈ fracsB d, (⟨(ratText x).toArray⟩ : ByteArray).size ≤ 65536 := fun x hx => by
    rw [str_len]
    have h1 : ∀ l : List Rat, x ∈ l → (ratText x).length ≤ (tailB l).length := by
      intro l
      induction l with
      | nil => intro h; cases h
      | cons y r ih =>
        intro h
        rw [show tailB (y :: r) = 32 :: (ratText y ++ tailB r) by simp [tailB], List.length_cons, List.length_append]
        rcases List.mem_cons.1 h with rfl | h
        · omega
        · have := ih h
          omega
    have := h1 _ hx
    have e : (lineT d).length = (headB d).length + (tailB (fracsB d)).length := by unfold lineT; rw [List.length_append]
    omega
  obtain ⟨nm, kd, P, Q, co⟩ := d
  have hN := wordN_le kd
  simp only at n1 n2 hk
  rcases (show wordN kd = 0 ∨ wordN kd = 1 ∨ wordN kd = 2 by omega) with h | h | h
  · obtain rfl : P = 0 := n1 (by omega)
    obtain rfl : Q = 0 := n2 (by omega)
    have e : fracsB ⟨nm, kd, 0, 0, co⟩ = [] := by unfold fracsB; simp only; rw [h]; rfl
    rw [e] at hw
    exact read_0 _ nm kd co w hsz hk (okPD_co hd) hd.2.2.1 hm ht h hw hd.2.2.2
  · obtain rfl : Q = 0 := n2 (by omega)
    have e : fracsB ⟨nm, kd, P, 0, co⟩ = [P] := by unfold fracsB; simp only; rw [h]; rfl
    rw [e] at hw hx
    exact read_1 _ nm kd co w hsz hk (okPD_co hd) hd.2.2.1 hm ht P ⟨(ratText P).toArray⟩ (readF_text P) hd.1 (hx P (by simp)) h hw hd.2.2.2
  · have e : fracsB ⟨nm, kd, P, Q, co⟩ = [P, Q] := by unfold fracsB; simp only; rw [h]; rfl
    rw [e] at hw hx
    exact read_2 _ nm kd co w hsz hk (okPD_co hd) hd.2.2.1 hm ht P Q ⟨(ratText P).toArray⟩ ⟨(ratText Q).toArray⟩ (readF_text P) hd.1 (hx P (by simp)) (readF_text Q) hd.2.1 (hx Q (by simp)) h hw hd.2.2.2
end Go.Proofs.YtjelnmokcpoofaaGreatDoor
namespace Go.Proofs.YtjelnmokcpoofaaGreatDoor
set_option maxRecDepth 100000
open Go Go.RowKit Go.Proofs Go.WideElems Go.ChangeMaps Go.MapKept
def newA (a : Array MapEntry) (s : ByteArray) (v : Value) (clock : Nat) : Obj := .map (a.push ⟨.string s, v, clock⟩) (clock + 1)
theorem newA_ne {a : Array MapEntry} {s : ByteArray} {v : Value} {clock : Nat} : Obj.map a clock ≠ newA a s v clock := by
  intro h
  unfold newA at h
  injection h with _ h
  omega
theorem mapP_size {w : World} {M : Nat} {es : List (PD × Value)} (h : MapP w M es) : ∃ a clock, w.heap[M]? = some (.map a clock) ∧ WideElems.Fit Tryz.prog 9 heldR a clock ∧ a.size = es.length := by
  obtain ⟨a, clock, hb, F, hs, hD⟩ := h
  refine ⟨a, clock, hb, F, ?_⟩
  have := congrArg Maps.size hD
  simp only [Maps.size_eq, List.length_map, length_sorted, Array.length_toList] at this
  omega
/-- A key that is not there: the entry's form, and what the map is behind it. -/
theorem mapP_new {w : World} {M : Nat} {es : List (PD × Value)} (h : MapP w M es) (x : PD × Value) (hs : x.1.nm.size ≤ maxLen) (hn : es.length < maxLen) (hf : findP x.1.nm es = none) :
    ∃ a clock, w.heap[M]? = some (.map a clock) ∧ WideElems.Fit Tryz.prog 9 heldR a clock ∧ (∀ e ∈ a.toList, e.key ≠ .string x.1.nm) ∧ ∀ W : World, W.heap[M]? = some (newA a x.1.nm x.2 clock) → MapP W M (insP x es) := by
  obtain ⟨a, clock, hb, F, hsz⟩ := mapP_size h
  obtain ⟨w', h1, h2, h3⟩ := h.store x hs hn hf
  have K := WideMaps.string_law (P := Tryz.prog) (k := 9) Tryz.underlying9
  have hkey := key_str hs
  have hlt : M < w.heap.size := (Array.getElem?_eq_some_iff.1 hb).1
  refine ⟨a, clock, hb, F, ?_⟩
  rcases K.find w hkey a.toList F.keys with ⟨g1, g2⟩ | ⟨j, e0, g1, g2, g3⟩
  · refine ⟨g2, fun W hW => ?_⟩
    have hr : (Instr.mapUpdate 59 (.map (some M)) (.string x.1.nm) x.2).run Tryz.prog w = .ok () (setBlock w M (newA a x.1.nm x.2 clock)) := by
      simp [Instr.mapUpdate, run_underlying Tryz.underlying59, MapKept.run_getObj_map hb, K.check w false hkey, g1, MapKept.run_setObj_map _ hb, Result.andThen, setBlock, newA]
    rw [h1] at hr
    injection hr with _ hr
    refine h2.blk ?_
    rw [hW, hr]
    simp [setBlock, hlt]
  · exfalso
    have hj : a[j]? = some e0 := by simpa using g2
    have hr : (Instr.mapUpdate 59 (.map (some M)) (.string x.1.nm) x.2).run Tryz.prog w = .ok () (setBlock w M (.map (a.modify j (fun e' => { e' with key := .string x.1.nm, val := x.2 })) clock)) := by
      simp [Instr.mapUpdate, run_underlying Tryz.underlying59, MapKept.run_getObj_map hb, K.check w false hkey, g1, hj, g3, K.stays w hkey, MapKept.run_setObj_map _ hb, Result.andThen, setBlock]
    rw [h1] at hr
    injection hr with _ hr
    obtain ⟨a2, clock2, hb2, -, hsz2⟩ := mapP_size h2
    rw [hr] at hb2
    have e : (setBlock w M (.map (a.modify j (fun e' => { e' with key := .string x.1.nm, val := x.2 })) clock)).heap[M]? = some (.map (a.modify j (fun e' => { e' with key := .string x.1.nm, val := x.2 })) clock) := by simp [setBlock, hlt]
    rw [e] at hb2
    cases hb2
    rw [Array.size_modify, insP_length] at hsz2
    omega
theorem entry_newA (W : World) (M clock : Nat) (a : Array MapEntry) (s : ByteArray) (hs : s.size ≤ maxLen) (F : WideElems.Fit Tryz.prog 9 heldR a clock) (hn : ∀ e ∈ a.toList, e.key ≠ .string s) (hb : W.heap[M]? = some (.map a clock)) :
    (Instr.mapEntry 59 (.map (some M)) (.string s)).run Tryz.prog W = .ok (.tuple #[zeroPart, .int .i64 clock]) (setBlock W M (newA a s zeroPart clock)) := by
  have K := WideMaps.string_law (P := Tryz.prog) (k := 9) Tryz.underlying9
  have hkey := key_str hs
  rcases K.find W hkey a.toList F.keys with ⟨h1, h2⟩ | ⟨j, e0, h1, h2, h3⟩
  · simp [Instr.mapEntry, run_underlying Tryz.underlying59, MapKept.run_getObj_map hb, K.check W false hkey, h1, zero_part W, MapKept.run_setObj_map _ hb, Result.andThen, setBlock, newA, goInt]
  · exact absurd h3 (hn e0 (List.mem_of_getElem? h2))
theorem keys_push {a : Array MapEntry} {clock : Nat} {s : ByteArray} {v : Value} (hs : s.size ≤ maxLen) (F : WideElems.Fit Tryz.prog 9 heldR a clock) : ∀ e ∈ (a.push ⟨.string s, v, clock⟩).toList, ∃ l, keyOf Tryz.prog 9 e.key = some l := by
  intro e he
  rw [Array.toList_push, List.mem_append, List.mem_singleton] at he
  rcases he with he | rfl
  · exact F.keys e he
  · exact ⟨_, key_str hs⟩
theorem idx_push {a : Array MapEntry} {clock : Nat} {s : ByteArray} {v : Value} (F : WideElems.Fit Tryz.prog 9 heldR a clock) : (a.push ⟨.string s, v, clock⟩).findIdx? (fun e => ((e.born : Nat) : Int) == ((clock : Nat) : Int)) = some a.size := by
  obtain ⟨s1, s2, _⟩ := F.stamped
  rw [findIdx_arr]
  exact findIdx_born (l := (a.push ⟨.string s, v, clock⟩).toList) (j := a.size) (e0 := ⟨.string s, v, clock⟩) (by
    simp only [Array.toList_push, List.map_append, List.map_cons, List.map_nil]
    refine List.nodup_append.2 ⟨s2, by simp, fun b ha c hc e1 => ?_⟩
    simp only [List.mem_singleton] at hc
    obtain ⟨x, hx, rfl⟩ := List.mem_map.1 ha
    have := s1 x hx
    omega) (by simp)
theorem entry_oldA (W : World) (M clock : Nat) (a : Array MapEntry) (s : ByteArray) (x : Value) (hs : s.size ≤ maxLen) (F : WideElems.Fit Tryz.prog 9 heldR a clock) (hn : ∀ e ∈ a.toList, e.key ≠ .string s) (hb : W.heap[M]? = some (newA a s x clock)) :
    (Instr.mapEntry 59 (.map (some M)) (.string s)).run Tryz.prog W = .ok (.tuple #[x, .int .i64 clock]) (setBlock W M (newA a s x clock)) := by
  have K := WideMaps.string_law (P := Tryz.prog) (k := 9) Tryz.underlying9
  have hkey := key_str hs
  unfold newA at hb ⊢
  have hk := keys_push (v := x) hs F
  have hmem : ∀ e ∈ (a.push ⟨.string s, x, clock⟩).toList, e.key = .string s → e = ⟨.string s, x, clock⟩ := fun e he h3 => by
    rw [Array.toList_push, List.mem_append, List.mem_singleton] at he
    rcases he with hm | hm
    · exact absurd h3 (hn e hm)
    · exact hm
  have hin : (⟨.string s, x, clock⟩ : MapEntry) ∈ (a.push ⟨.string s, x, clock⟩).toList := by simp
  generalize a.push ⟨.string s, x, clock⟩ = B at *
  rcases K.find W hkey B.toList hk with ⟨h1, h2⟩ | ⟨j, e0, h1, h2, h3⟩
  · exact absurd rfl (h2 _ hin)
  · have hj : B[j]? = some e0 := by simpa using h2
    have he := hmem e0 (List.mem_of_getElem? h2) h3
    have hsame : B.modify j (fun e => { e with key := .string s }) = B := by
      apply Array.ext'
      rw [Array.toList_modify, modify_eq_set _ _ _ _ h2]
      have : ({ e0 with key := .string s } : MapEntry) = e0 := by rw [← h3]
      rw [this]
      exact set_self _ _ _ h2
    subst he
    simp [Instr.mapEntry, run_underlying Tryz.underlying59, MapKept.run_getObj_map hb, K.check W false hkey, h1, hj, K.stays W hkey, hsame, MapKept.run_setObj_map _ hb, Result.andThen, setBlock, goInt]
theorem entry_storeA (W : World) (M clock : Nat) (a : Array MapEntry) (s : ByteArray) (x val : Value) (F : WideElems.Fit Tryz.prog 9 heldR a clock) (hb : W.heap[M]? = some (newA a s x clock)) :
    (Instr.entryStore 59 (.map (some M)) (.int .i64 clock) val).run Tryz.prog W = .ok () (setBlock W M (newA a s val clock)) := by
  unfold newA at hb
  have hidx := idx_push (s := s) (v := x) F
  have hmod : (a.push ⟨.string s, x, clock⟩).modify a.size (fun e => { e with val := val }) = a.push ⟨.string s, val, clock⟩ := by
    apply Array.ext'
    rw [Array.toList_modify, Array.toList_push, Array.toList_push, ← Array.length_toList, modify_last]
  simp [Instr.entryStore, MapKept.run_getObj_map hb, asInt, asIntOf, hidx, hmod, MapKept.run_setObj_map _ hb, Result.andThen, setBlock, newA]
/-- All blocks are as they were but one; that is as it was, or has the new entry, empty or with its value. -/
structure EnA (M : Nat) (a : Array MapEntry) (s : ByteArray) (v : Value) (clock : Nat) (w w' : World) : Prop where
  os : w'.os = w.os
  tape : w'.tape = w.tape
  output : w'.output = w.output
  size : w.heap.size ≤ w'.heap.size
  block : ∀ k, k < w.heap.size → k ≠ M → w'.heap[k]? = w.heap[k]?
  map : w'.heap[M]? = w.heap[M]? ∨ (w.heap[M]? = some (.map a clock) ∧ w'.heap[M]? = some (newA a s zeroPart clock)) ∨ w'.heap[M]? = some (newA a s v clock) ∨ w.heap.size ≤ M
section
variable {M clock : Nat} {a : Array MapEntry} {s : ByteArray} {v : Value}
theorem EnA.of_ext {w w' : World} (e : Ext w w') : EnA M a s v clock w w' :=
  ⟨e.os, e.tape, e.output, e.size, fun k h _ => e.block k h, by
    rcases Nat.lt_or_ge M w.heap.size with h | h
    · exact .inl (e.block M h)
    · exact .inr (.inr (.inr h))⟩
theorem EnA.trans {x y z : World} (h : EnA M a s v clock x y) (k : EnA M a s v clock y z) : EnA M a s v clock x z := by
  refine ⟨k.os.trans h.os, k.tape.trans h.tape, k.output.trans h.output, Nat.le_trans h.size k.size, fun i hi hn => (k.block i (Nat.lt_of_lt_of_le hi h.size) hn).trans (h.block i hi hn), ?_⟩
  rcases k.map with e | ⟨e1, e2⟩ | e | e
  · rcases h.map with f | ⟨f1, f2⟩ | f | f
    · exact .inl (e.trans f)
    · exact .inr (.inl ⟨f1, e.trans f2⟩)
    · exact .inr (.inr (.inl (e.trans f)))
    · exact .inr (.inr (.inr f))
  · rcases h.map with f | ⟨f1, f2⟩ | f | f
    · exact .inr (.inl ⟨f.symm.trans e1, e2⟩)
    · exact .inr (.inl ⟨f1, e2⟩)
    · rw [e1] at f
      exact absurd (Option.some.inj f) newA_ne
    · exact .inr (.inr (.inr f))
  · exact .inr (.inr (.inl e))
  · exact .inr (.inr (.inr (Nat.le_trans h.size e)))
theorem EnA.blk {k : Nat} {w w' : World} {o : Obj} (h : EnA M a s v clock w w') (hk : w.heap[k]? = some o) (hne : k ≠ M) : w'.heap[k]? = some o :=
  (h.block k (Array.getElem?_eq_some_iff.1 hk).1 hne).trans hk
theorem EnA.set {o o' : Obj} {w : World} (ho : w.heap[M]? = some o) (hc : o' = o ∨ (o = .map a clock ∧ o' = newA a s zeroPart clock) ∨ o' = newA a s v clock) : EnA M a s v clock w (setBlock w M o') := by
  have hlt : M < w.heap.size := (Array.getElem?_eq_some_iff.1 ho).1
  have e : (setBlock w M o').heap[M]? = some o' := by simp [setBlock, hlt]
  refine ⟨rfl, rfl, rfl, by simp [setBlock], fun k _ hne => by simp [setBlock, Array.getElem?_setIfInBounds_ne (Ne.symm hne)], ?_⟩
  rw [e, ho]
  rcases hc with rfl | ⟨rfl, rfl⟩ | rfl
  · exact .inl rfl
  · exact .inr (.inl ⟨rfl, rfl⟩)
  · exact .inr (.inr (.inl rfl))
/-- The map has the new entry. -/
def HasE (M : Nat) (a : Array MapEntry) (s : ByteArray) (v : Value) (clock : Nat) (W : World) : Prop := W.heap[M]? = some (newA a s zeroPart clock) ∨ W.heap[M]? = some (newA a s v clock)
theorem HasE.stable {w w' : World} (e : EnA M a s v clock w w') (h : HasE M a s v clock w) : HasE M a s v clock w' := by
  rcases e.map with f | ⟨f1, f2⟩ | f | f
  · unfold HasE
    rw [f]
    exact h
  · exact .inl f2
  · exact .inr f
  · rcases h with h | h <;> (have := (Array.getElem?_eq_some_iff.1 h).1; omega)
theorem done_stable {w w' : World} (e : EnA M a s v clock w w') (h : w.heap[M]? = some (newA a s v clock)) : w'.heap[M]? = some (newA a s v clock) := by
  rcases e.map with f | ⟨f1, f2⟩ | f | f
  · exact f.trans h
  · rw [h] at f1
    exact absurd (Option.some.inj f1).symm newA_ne
  · exact f
  · have := (Array.getElem?_eq_some_iff.1 h).1
    omega
def EntA (M : Nat) (a : Array MapEntry) (s : ByteArray) (v : Value) (clock : Nat) (W : World) (x : Value) : Prop := (∃ y, x = .tuple #[y, .int .i64 clock]) ∧ HasE M a s v clock W
def ClkA (M : Nat) (a : Array MapEntry) (s : ByteArray) (v : Value) (clock : Nat) (W : World) (x : Value) : Prop := x = .int .i64 clock ∧ HasE M a s v clock W
def DoneA (M : Nat) (a : Array MapEntry) (s : ByteArray) (v : Value) (clock : Nat) (W : World) (_ : Value) : Prop := W.heap[M]? = some (newA a s v clock)
theorem sA_val {ss : List FSpec} (c : Value) (h : StableAll (EnA M a s v clock) ss) : StableAll (EnA M a s v clock) (.val c :: ss) := stable_vals c h
theorem sA_ent {ss : List FSpec} (h : StableAll (EnA M a s v clock) ss) : StableAll (EnA M a s v clock) (.pred (EntA M a s v clock) :: ss) := ⟨fun _ _ _ e k => ⟨k.1, k.2.stable e⟩, h⟩
theorem sA_clk {ss : List FSpec} (h : StableAll (EnA M a s v clock) ss) : StableAll (EnA M a s v clock) (.pred (ClkA M a s v clock) :: ss) := ⟨fun _ _ _ e k => ⟨k.1, k.2.stable e⟩, h⟩
theorem sA_done {ss : List FSpec} (h : StableAll (EnA M a s v clock) ss) : StableAll (EnA M a s v clock) (.pred (DoneA M a s v clock) :: ss) := ⟨fun _ _ _ e k => done_stable e k, h⟩
theorem region_entryA {id : Nat} {l : List Oper} {t : Act} {w : World} {Q : Exit → Act → World → Prop} (M : Nat) (a : Array MapEntry) (s : ByteArray) (v : Value) (clock : Nat) (specs : List FSpec) (hok : okFreeS specs.length t.tmps.size l = true) (hst : StableAll (EnA M a s v clock) specs) (hvo : VoidAll l specs)
    (h : freeSteps Tryz.prog l (EnA M a s v clock) w Q 0 specs l t []) : (Code.region id l.toArray true).wp Tryz.prog Q t w :=
  region_freeS (EnA M a s v clock) specs mixed hok (fun w => .of_ext (Ext.refl w)) (fun _ _ _ => EnA.trans) (fun w => .of_ext ((Ext.refl w).dr)) (stableAll_mem hst) hvo h
end
end Go.Proofs.YtjelnmokcpoofaaGreatDoor
