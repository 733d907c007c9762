/-
  The law GratingSlits, walked.
-/
import Derived.Test.YtbpjggljbkppaaaGreatDoorSlitsU
namespace Go.Proofs.YtbpjggljbkppaaaGreatDoor
open Go Go.RowKit Go.Proofs
theorem mark12 : ∀ n : Nat, n = 1 ∨ n = 2 → FloatKind.f64.format.order (fm n) (fm n) = some .eq := by
  intro n h
  rcases h with rfl | rfl
  · kernel_rfl
  · kernel_rfl
/-- A row's block lies where it was before. -/
theorem own_lt {w : World} {base E sz n : Nat} {v : Value} {xs : List Value} (h : w.ownsRow base E sz v n xs) : ∀ g, v.ownBlock = some g → base ≤ g ∧ g < w.heap.size := h.lt
/-- Two lists kept: what Apart asks. -/
theorem two_ready {base bk : Nat} {E T len1 len2 : Nat} {l m : Value} {xs ys : List Value} {w4 w5 w6 : World} {sa : Option Addr} {sc : Nat}
    (hbk : bk < w4.heap.size) (hbase : base ≤ w4.heap.size) (hz : Nils bk 4 w4)
    (hl : w4.ownsRow base E 1 l len1 xs) (hm : w4.ownsRow base E 1 m len2 ys) (hlb : ∀ g, l.ownBlock = some g → g ≠ bk) (hmb : ∀ g, m.ownBlock = some g → g ≠ bk) (hlm : ∀ g, l.ownBlock = some g → m.ownBlock ≠ some g)
    (k1 : Kept bk 4 base T w4 (.slice none 0 0) [] (Ent.mk l 1 len1) w5) (hs : w5.cell? ⟨bk, 4, none⟩ = some (.slice sa 1 sc)) (k2 : Kept bk 4 base T w5 (.slice sa 1 sc) [Ent.mk l 1 len1] (Ent.mk m 2 len2) w6) :
    ∃ hb cap, w6.cell? ⟨bk, 4, none⟩ = some (.slice (some ⟨hb, 0, none⟩) 2 cap) ∧ Nils bk 4 w6 ∧ Holds w6 hb [Ent.mk l 1 len1, Ent.mk m 2 len2] ∧ Lists base E w6 [Ent.mk l 1 len1, Ent.mk m 2 len2] ∧ Distinct [Ent.mk l 1 len1, Ent.mk m 2 len2] ∧
      ¬ Blocks [Ent.mk l 1 len1, Ent.mk m 2 len2] bk ∧ ¬ Blocks [Ent.mk l 1 len1, Ent.mk m 2 len2] hb ∧ bk ≠ hb ∧ hb < w6.heap.size ∧ base ≤ w6.heap.size ∧ w4.heap.size ≤ hb ∧ Chg w4 w6 (fun g => g = bk) := by
  obtain ⟨sa1, sc1, c1, -, z1, f1, r1, p1, q1⟩ := k1
  obtain ⟨sa2, sc2, c2, -, z2, f2, r2, p2, q2⟩ := k2
  have hse : Value.slice sa 1 sc = .slice sa1 1 sc1 := by
    have := hs.symm.trans z1
    simpa using this
  have hb1 : ∀ g, (Value.slice sa 1 sc).ownBlock = some g → w4.heap.size ≤ g := by
    intro g hg
    rw [hse] at hg
    rcases q1 with h | ⟨b, h, h'⟩
    · have h2 : (Value.slice sa1 1 sc1).ownBlock = none := h
      rw [h2] at hg; cases hg
    · have h2 : (Value.slice sa1 1 sc1).ownBlock = some b := h
      rw [h2] at hg
      cases hg
      exact h'
  obtain ⟨hb, cap, e2, hh, hb2, hb3⟩ := p2.holds (by simp)
  have e2' : Value.slice sa2 2 sc2 = .slice (some ⟨hb, 0, none⟩) 2 cap := e2
  have hb4 : w4.heap.size ≤ hb := by
    rcases q2 with h | ⟨b, h, h'⟩
    · refine hb1 hb ?_
      rw [← h]
      show (Value.slice sa2 2 sc2).ownBlock = _
      rw [e2']
      rfl
    · have h2 : (Value.slice sa2 2 sc2).ownBlock = some b := h
      rw [e2'] at h2
      have h3 : hb = b := by simpa [Value.ownBlock] using h2
      have := c1.size
      omega
  have cc : Chg w4 w6 (fun g => g = bk) := by
    refine ⟨c2.os.trans c1.os, c2.tape.trans c1.tape, c2.output.trans c1.output, Nat.le_trans c1.size c2.size, fun k hk hn => ?_⟩
    refine (c2.block k (Nat.lt_of_lt_of_le hk c1.size) ?_).trans (c1.block k hk ?_)
    · rintro (h | h)
      · exact hn h
      · have := hb1 k h.symm; omega
    · rintro (h | h)
      · exact hn h
      · cases h
  have hl6 := cc.row hl hlb
  have hm6 := cc.row hm hmb
  have hB : ∀ g, Blocks [Ent.mk l 1 len1, Ent.mk m 2 len2] g → g ≠ bk ∧ g < w4.heap.size := by
    rintro g ⟨i, hi, hg⟩
    match i, hi, hg with
    | 0, _, hg => exact ⟨hlb g hg, (hl.lt g hg).2⟩
    | 1, _, hg => exact ⟨hmb g hg, (hm.lt g hg).2⟩
  refine ⟨hb, cap, ?_, ?_, hh, ?_, ?_, fun h => (hB _ h).1 rfl, fun h => by have := (hB _ h).2; omega, by omega, hb3, Nat.le_trans hbase cc.size, hb4, cc⟩
  · rw [z2]
    exact congrArg some e2'
  · intro i h0 h1 h2
    rw [r2 i h0 h1, r1 i h0 h1]
    exact hz i h0 h1 h2
  · intro i hi
    match i, hi with
    | 0, _ => exact ⟨_, hl6⟩
    | 1, _ => exact ⟨_, hm6⟩
  · intro i j hi hj hij
    match i, hi, j, hj with
    | 0, _, 0, _ => exact absurd rfl hij
    | 1, _, 1, _ => exact absurd rfl hij
    | 0, _, 1, _ =>
      show l.ownBlock = none ∨ l.ownBlock ≠ m.ownBlock
      cases hlo : l.ownBlock with
      | none => exact .inl rfl
      | some g => exact .inr fun e => hlm g hlo e.symm
    | 1, _, 0, _ =>
      show m.ownBlock = none ∨ m.ownBlock ≠ l.ownBlock
      cases hlo : m.ownBlock with
      | none => exact .inl rfl
      | some g => exact .inr fun e => hlm g e.symm hlo
/-- A new Book's cells. -/
def bookCells : Array Value := #[.int .i64 0, .slice none 0 0, .slice none 0 0, .slice none 0 0, .slice none 0 0, .slice none 0 0, .slice none 0 0, .slice none 0 0, .slice none 0 0, .slice none 0 0, .slice none 0 0, .slice none 0 0, .slice none 0 0, .slice none 0 0, .slice none 0 0, .slice none 0 0, .slice none 0 0]
theorem book_new (w : World) (T : Nat) : (w.alloc (.cells bookCells T)).cell? ⟨w.heap.size, 0, none⟩ = some (.int .i64 0) ∧ (∀ j, Nils w.heap.size j (w.alloc (.cells bookCells T))) ∧ (∀ i, (w.alloc (.cells bookCells T)).frozen? ⟨w.heap.size, i, none⟩ = false) ∧
    ∀ i, i ≠ 0 → i ≤ 16 → (w.alloc (.cells bookCells T)).cell? ⟨w.heap.size, i, none⟩ = some (.slice none 0 0) := by
  have hg := heap_alloc_new w (.cells bookCells T)
  have hc : ∀ i, i ≠ 0 → i ≤ 16 → (w.alloc (.cells bookCells T)).cell? ⟨w.heap.size, i, none⟩ = some (.slice none 0 0) := by
    intro i h0 h1
    rw [cell_of_row _ _ i bookCells T (0, 0) hg]
    have : i = 1 ∨ i = 2 ∨ i = 3 ∨ i = 4 ∨ i = 5 ∨ i = 6 ∨ i = 7 ∨ i = 8 ∨ i = 9 ∨ i = 10 ∨ i = 11 ∨ i = 12 ∨ i = 13 ∨ i = 14 ∨ i = 15 ∨ i = 16 := by omega
    rcases this with rfl | rfl | rfl | rfl | rfl | rfl | rfl | rfl | rfl | rfl | rfl | rfl | rfl | rfl | rfl | rfl <;> rfl
  refine ⟨?_, fun j i h0 _ h1 => hc i h0 h1, fun i => frozen_of_row _ _ i bookCells T hg, hc⟩
  rw [cell_of_row _ _ 0 bookCells T (0, 0) hg]
  rfl
theorem c1_c (w4 : World) (base : Nat) (la : Option Addr) (len lc : Nat) (hb : base ≤ w4.heap.size) :
    Calls Tryz.prog 8 #[.pointer (some ⟨w4.heap.size, 0, none⟩), .slice la len lc] (w4.alloc (.cells bookCells 46)) fun e w5 => e = .returned (.tuple #[]) ∧
      Kept w4.heap.size 4 base 70 (w4.alloc (.cells bookCells 46)) (.slice none 0 0) [] (Ent.mk (.slice la len lc) 1 len) w5 :=
  Complexes_c w4.heap.size base none 0 la len lc [] 0 _ (by omega) (by simp) (book_new w4 _).1 ((book_new w4 _).2.2.2 4 (by decide) (by decide)) (book_new w4 _).2.2.1 (World.ownsRow_nil _ _ _ _) (by simp [Value.ownBlock]) (by simp; omega)
theorem kept_own {bk base T : Nat} {w w' : World} {e : Ent} (hbk : bk < w.heap.size) (k : Kept bk 4 base T w (.slice none 0 0) [] e w') :
    ∃ sa sc, w'.cell? ⟨bk, 0, none⟩ = some (.int .i64 e.n) ∧ w'.cell? ⟨bk, 4, none⟩ = some (.slice sa 1 sc) ∧ (∀ j, w'.frozen? ⟨bk, j, none⟩ = false) ∧ Own3 base T w' (.slice sa 1 sc) [e] ∧ some bk ≠ (Value.slice sa 1 sc).ownBlock ∧ w.heap.size ≤ w'.heap.size := by
  obtain ⟨sa1, sc1, c1, z0, z1, f1, r1, p1, q1⟩ := k
  refine ⟨sa1, sc1, z0, z1, f1, p1, fun h => ?_, c1.size⟩
  rcases q1 with h' | ⟨b, h', h2⟩
  · have h2 : (Value.slice sa1 1 sc1).ownBlock = none := h'
    rw [h2] at h; cases h
  · have h3 : (Value.slice sa1 1 sc1).ownBlock = some b := h'
    rw [h3] at h; cases h
    omega
theorem c2_c (w4 w5 : World) (base : Nat) (la lm : Option Addr) (len lc len2 lc2 : Nat) (hb : base ≤ w4.heap.size)
    (k1 : Kept w4.heap.size 4 base 70 (w4.alloc (.cells bookCells 46)) (.slice none 0 0) [] (Ent.mk (.slice la len lc) 1 len) w5) :
    Calls Tryz.prog 8 #[.pointer (some ⟨w4.heap.size, 0, none⟩), .slice lm len2 lc2] w5 fun e w6 => e = .returned (.tuple #[]) ∧ ∃ sa sc, w5.cell? ⟨w4.heap.size, 4, none⟩ = some (.slice sa 1 sc) ∧
      Kept w4.heap.size 4 base 70 w5 (.slice sa 1 sc) [Ent.mk (.slice la len lc) 1 len] (Ent.mk (.slice lm len2 lc2) 2 len2) w6 := by
  obtain ⟨sa, sc, h1, h2, h3, h4, h5, h6⟩ := kept_own (by simp) k1
  exact (Complexes_c w4.heap.size base sa sc lm len2 lc2 [Ent.mk (.slice la len lc) 1 len] 1 w5 (by omega) (by simp) h1 h2 h3 h4 h5 (by simp at h6; omega)).mono fun e w' h => ⟨h.1, sa, sc, h2, h.2⟩
theorem ap_c (w0 w4 w5 w6 : World) (la lm : Option Addr) (len lc len2 lc2 : Nat) (xs ys : List Value) (hE : Ext w0 w4) (h1 : len ≤ 1000000000) (h2 : len2 ≤ 1000000000)
    (hl : w4.ownsRow w0.heap.size 61 1 (.slice la len lc) len xs) (hm : w4.ownsRow w0.heap.size 61 1 (.slice lm len2 lc2) len2 ys) (hlm : ∀ g, (Value.slice la len lc).ownBlock = some g → (Value.slice lm len2 lc2).ownBlock ≠ some g)
    (k1 : Kept w4.heap.size 4 w0.heap.size 70 (w4.alloc (.cells bookCells 46)) (.slice none 0 0) [] (Ent.mk (.slice la len lc) 1 len) w5)
    (k2 : ∃ sa sc, w5.cell? ⟨w4.heap.size, 4, none⟩ = some (.slice sa 1 sc) ∧ Kept w4.heap.size 4 w0.heap.size 70 w5 (.slice sa 1 sc) [Ent.mk (.slice la len lc) 1 len] (Ent.mk (.slice lm len2 lc2) 2 len2) w6) :
    Calls Tryz.prog 9 #[.pointer (some ⟨w4.heap.size, 0, none⟩)] w6 fun e w' => e = .returned (.bool true) ∧ Ext w0 w' := by
  obtain ⟨sa, sc, hs, k2⟩ := k2
  have hs4 := hE.size
  obtain ⟨hb, cap, a1, a2, a3, a4, a5, a6, a7, a8, a9, a10, a11, a12⟩ := two_ready (by simp) (by simp; omega) ((book_new w4 _).2.1 4) (hl.alloc _) (hm.alloc _) (fun g hg e => by have := (hl.lt g hg).2; omega) (fun g hg e => by have := (hm.lt g hg).2; omega) hlm k1 hs k2
  refine (apart_complex w4.heap.size hb cap w0.heap.size [Ent.mk (.slice la len lc) 1 len, Ent.mk (.slice lm len2 lc2) 2 len2] w6 a1 (by simp) a2 a3 a4 a5 a6 a7 a8 a9 a10 ?_).mono fun e w' h => ⟨h.1, ?_⟩
  · intro i hi
    match i, hi with
    | 0, _ => exact ⟨by simp, h1, mark12 _ (.inl rfl)⟩
    | 1, _ => exact ⟨by simp, h2, mark12 _ (.inr rfl)⟩
  · have e1 : Ext w0 w6 := a12.ext w0 (hE.al _) (fun k hk e => by omega)
    refine h.2.ext w0 e1 fun k hk => ?_
    rintro (⟨i, hi, hg⟩ | rfl)
    · match i, hi, hg with
      | 0, _, hg => have := (hl.lt k hg).1; omega
      | 1, _, hg => have := (hm.lt k hg).1; omega
    · simp at a11; omega
theorem sameComplexes_x (a a' : Option Addr) (xs : List (Nat × Nat)) (w : World) (hl : xs.length ≤ 65536) (h : Row w a (xs.map cxV)) (h' : Row w a' (xs.map cxV)) :
    Calls Tryz.prog 7 #[.slice a xs.length xs.length, .slice a' xs.length xs.length] w fun e w' => e = .returned (.bool true) ∧ Ext w w' :=
  (sameComplexes_c a a' _ _ xs w (by omega) h h').mono fun e w' h => ⟨h.1, by obtain ⟨n, rfl⟩ := h.2; exact (Ext.refl w).drN n⟩
theorem row_lit {w : World} {base E n c : Nat} {a : Option Addr} {xs : List Value} (h : w.ownsRow base E 1 (.slice a n c) n xs) : Row w a xs := by
  obtain ⟨a', c', e, _, hr⟩ := row_of_owns h
  cases e
  exact hr
set_option maxHeartbeats 1600000 in
set_option maxRecDepth 100000 in
theorem law_walk (n s wd ap : Int) (w : World) (hn : n ≤ 9223372036854775807) (hap : ap ≤ 9223372036854775807) (hs : s ≤ 9223372036854775807) :
    Calls Tryz.prog 3 #[.agg #[.int .i64 n, .int .i64 s, .int .i64 wd, .int .i64 ap]] w fun e w' => e = .returned (.bool true) ∧ Ext w w' := by
  obtain ⟨xs, code, hx, hA, hR⟩ := slits_uni n s wd ap hn hap hs
  replace hA := mkHid hA
  replace hR := mkHid hR
  go_enter Tryz.func3, Tryz.ntmps3
  obtain ⟨W0, hW0⟩ : ∃ W0, W0 = w.alloc (.cells #[.int .i64 n, .int .i64 s, .int .i64 wd, .int .i64 ap] 23) := ⟨_, rfl⟩
  have hE0 : Ext w W0 := by rw [hW0]; exact (Ext.refl w).al _
  have g0 : ∀ W, Ext W0 W → W.cell? ⟨w.heap.size, 0, none⟩ = some (.int .i64 n) := fun W e => e.cell (by rw [hW0]; go_simp)
  have g1 : ∀ W, Ext W0 W → W.cell? ⟨w.heap.size, 1, none⟩ = some (.int .i64 s) := fun W e => e.cell (by rw [hW0]; go_simp)
  have g2 : ∀ W, Ext W0 W → W.cell? ⟨w.heap.size, 2, none⟩ = some (.int .i64 wd) := fun W e => e.cell (by rw [hW0]; go_simp)
  have g3 : ∀ W, Ext W0 W → W.cell? ⟨w.heap.size, 3, none⟩ = some (.int .i64 ap) := fun W e => e.cell (by rw [hW0]; go_simp)
  replace hE0 := mkHid hE0
  replace hW0 := mkHid hW0
  go_wp2_with (first
    | (go_at_call 5; rw [← hW0.out]; refine (hA.out W0).mono ?_; rintro e w1 ⟨la, rfl, hl, hE1⟩; have hlb := mkHid (fun g e => (hl.lt g e).2); have hE01 := mkHid hE1.size; replace hl := mkHid hl)
    | (go_at_call 5; refine (hA.out w1).mono ?_; rintro e w2 ⟨lm, rfl, hm, hE2⟩; replace hl := mkHid (ownsRow_ext hl.out hE2); replace hm := mkHid hm; replace hE1 := hE1.trans hE2; replace hE2 := mkHid hE2)
    | (go_at_call 6; refine (hR.out w2).mono ?_; rintro e w3 ⟨lw, rfl, hw, hE3⟩; replace hl := mkHid (ownsRow_ext hl.out hE3); replace hm := mkHid (ownsRow_ext hm.out hE3); replace hw := mkHid hw; replace hE1 := mkHid (hE1.trans hE3); replace hE3 := mkHid hE3)
    | (go_at_call 7; refine (sameComplexes_x la lw xs w3 hx (row_lit hl.out) (row_lit hw.out)).mono ?_; rintro e w4 ⟨rfl, hE4⟩; replace hl := mkHid (ownsRow_ext hl.out hE4); replace hm := mkHid (ownsRow_ext hm.out hE4); replace hw := mkHid (ownsRow_ext hw.out hE4); replace hE1 := mkHid (hE1.out.trans hE4); replace hE4 := mkHid hE4)
    | (go_at_call 7; refine (sameComplexes_x lm lw xs w4 hx (row_lit hm.out) (row_lit hw.out)).mono ?_; rintro e w5 ⟨rfl, hE5⟩; replace hl := mkHid (ownsRow_ext hl.out hE5); replace hm := mkHid (ownsRow_ext hm.out hE5); replace hE1 := mkHid (hE1.out.trans hE5); replace hE5 := mkHid hE5)
    | (go_at_call 8; refine (c1_c w5 w.heap.size la xs.length xs.length (Nat.le_trans hE0.out.size hE1.out.size)).mono ?_; rintro e w6 ⟨rfl, hk1⟩; replace hk1 := mkHid hk1)
    | (go_at_call 8; refine (c2_c w5 w6 w.heap.size la lm _ _ xs.length xs.length (Nat.le_trans hE0.out.size hE1.out.size) hk1.out).mono ?_; rintro e w7 ⟨rfl, hk2⟩; replace hk2 := mkHid hk2)
    | (go_at_call 9; refine (ap_c w w5 w6 w7 la lm xs.length xs.length xs.length xs.length _ _ (hE0.out.trans hE1.out) (by omega) (by omega) (ownsRow_mono hl.out hE0.out.size) (ownsRow_mono hm.out (Nat.le_trans hE0.out.size hE01.out)) (fun g e1 e2 => by have x1 := hlb.out g e1; have x2 := (hm.out.lt g e2).1; omega) hk1.out hk2.out).mono ?_; rintro e w8 ⟨rfl, hE8⟩; replace hE8 := mkHid hE8))
  go_ret
  exact ⟨rfl, hE8.out⟩
end Go.Proofs.YtbpjggljbkppaaaGreatDoor
