/-
  The law GratingPeaks, walked.
-/
import Derived.Test.YtbpjggljbkppaaaGreatDoorPeaks5
import Derived.Test.YtbpjggljbkppaaaGreatDoorApartFN
namespace Go.Proofs.YtbpjggljbkppaaaGreatDoor
open Go Go.RowKit Go.Proofs
theorem markF1 : FloatKind.f64.format.order (fm (1 : Nat)) (fm (1 : Nat)) = some .eq := by kernel_rfl
/-- A new Book's cells. -/
def bookCells : Array Value := #[.int .i64 0, .slice none 0 0, .slice none 0 0, .slice none 0 0, .slice none 0 0, .slice none 0 0, .slice none 0 0, .slice none 0 0, .slice none 0 0, .slice none 0 0, .slice none 0 0, .slice none 0 0, .slice none 0 0, .slice none 0 0, .slice none 0 0, .slice none 0 0, .slice none 0 0]
theorem book_new (w : World) (T : Nat) : (w.alloc (.cells bookCells T)).cell? ⟨w.heap.size, 0, none⟩ = some (.int .i64 0) ∧ (∀ i, (w.alloc (.cells bookCells T)).frozen? ⟨w.heap.size, i, none⟩ = false) ∧
    ∀ i, i ≠ 0 → i ≤ 16 → (w.alloc (.cells bookCells T)).cell? ⟨w.heap.size, i, none⟩ = some (.slice none 0 0) := by
  have hg := heap_alloc_new w (.cells bookCells T)
  have hc : ∀ i, i ≠ 0 → i ≤ 16 → (w.alloc (.cells bookCells T)).cell? ⟨w.heap.size, i, none⟩ = some (.slice none 0 0) := by
    intro i h0 h1
    rw [cell_of_row _ _ i bookCells T (0, 0) hg]
    have : i = 1 ∨ i = 2 ∨ i = 3 ∨ i = 4 ∨ i = 5 ∨ i = 6 ∨ i = 7 ∨ i = 8 ∨ i = 9 ∨ i = 10 ∨ i = 11 ∨ i = 12 ∨ i = 13 ∨ i = 14 ∨ i = 15 ∨ i = 16 := by omega
    rcases this with rfl | rfl | rfl | rfl | rfl | rfl | rfl | rfl | rfl | rfl | rfl | rfl | rfl | rfl | rfl | rfl <;> rfl
  refine ⟨?_, fun i => frozen_of_row _ _ i bookCells T hg, hc⟩
  rw [cell_of_row _ _ 0 bookCells T (0, 0) hg]
  rfl
theorem floats1_c (w4 : World) (base : Nat) (la : Option Addr) (len lc : Nat) (hb : base ≤ w4.heap.size) :
    Calls Tryz.prog 16 #[.pointer (some ⟨w4.heap.size, 0, none⟩), .slice la len lc] (w4.alloc (.cells bookCells 46)) fun e w5 => e = .returned (.tuple #[]) ∧
      Kept w4.heap.size 3 base 79 (w4.alloc (.cells bookCells 46)) (.slice none 0 0) [] (Ent.mk (.slice la len lc) 1 len) w5 := by
  have hk := mkHid (keepFloat_c w4.heap.size base none 0 la len lc [] 0 _ (by omega) (by simp) (book_new w4 46).1 ((book_new w4 _).2.2 3 (by decide) (by decide)) (book_new w4 _).2.1 (World.ownsRow_nil _ _ _ _) (by simp [Value.ownBlock]) (by simp; omega))
  obtain ⟨W, hW⟩ : ∃ W, W = w4.alloc (.cells bookCells 46) := ⟨_, rfl⟩
  rw [← hW] at hk ⊢
  clear hW
  generalize w4.heap.size = bk at *
  go_enter Tryz.func16, Tryz.ntmps16
  go_wp2_with (go_at_call 72; refine hk.out.mono ?_; rintro e w' ⟨rfl, hK⟩; replace hK := mkHid hK)
  go_end0
  exact ⟨rfl, hK.out⟩
theorem numbers1_c (bk : Nat) (w5 : World) (base : Nat) (la : Option Addr) (len lc : Nat) (hb : base ≤ w5.heap.size) (h0 : w5.cell? ⟨bk, 0, none⟩ = some (.int .i64 (1 : Nat))) (h2 : w5.cell? ⟨bk, 2, none⟩ = some (.slice none 0 0)) (hf : ∀ j, w5.frozen? ⟨bk, j, none⟩ = false) :
    Calls Tryz.prog 17 #[.pointer (some ⟨bk, 0, none⟩), .slice la len lc] w5 fun e w6 => e = .returned (.tuple #[]) ∧
      Kept bk 2 base 77 w5 (.slice none 0 0) [] (Ent.mk (.slice la len lc) 2 len) w6 := by
  have hk := mkHid (keepNumber_c bk base none 0 la len lc [] 1 w5 (by omega) (by simp) h0 h2 hf (World.ownsRow_nil _ _ _ _) (by simp [Value.ownBlock]) hb)
  clear h0 h2 hf
  go_enter Tryz.func17, Tryz.ntmps17
  go_wp2_with (go_at_call 73; refine hk.out.mono ?_; rintro e w' ⟨rfl, hK⟩; replace hK := mkHid hK)
  go_end0
  exact ⟨rfl, hK.out⟩
/-- What both Peaks leave. -/
def PRes (ps : List Nat) (code : Int) (w : World) (e : Ending) (w' : World) : Prop :=
  ∃ a c, e = .returned (.tuple #[.slice a ps.length c, .int .i64 code]) ∧ w'.ownsRow w.heap.size 3 1 (.slice a ps.length c) ps.length (ps.map inV) ∧ Ext w w'
theorem pres_none {code : Int} {w w' : World} {e : Ending} (h : e = .returned (.tuple #[.slice none 0 0, .int .i64 code]) ∧ w = w') : PRes [] code w e w' := by
  obtain ⟨rfl, rfl⟩ := h
  exact ⟨none, 0, rfl, World.ownsRow_nil _ _ _ _, Ext.refl _⟩
theorem pres_some {ps : List Nat} {w w' : World} {e : Ending} (h : ∃ v, e = .returned (.tuple #[v, .int .i64 0]) ∧ w'.ownsRow w.heap.size 3 1 v ps.length (ps.map inV) ∧ Ext w w') : PRes ps 0 w e w' := by
  obtain ⟨v, rfl, h1, h2⟩ := h
  obtain ⟨a, c, rfl, _⟩ := row_of_owns h1
  exact ⟨a, c, rfl, h1, h2⟩
theorem peaks_uni (xs : List Nat) (hl : xs.length ≤ 1048576) : ∃ ps code, ps.length ≤ 1048576 ∧
    (∀ a c w, Row w a (xs.map flV) → Calls Tryz.prog 12 #[.slice a xs.length c] w (PRes ps code w)) ∧
    (∀ a c w, Row w a (xs.map flV) → Calls Tryz.prog 13 #[.slice a xs.length c] w (PRes ps code w)) := by
  cases hn : xs.any nanB with
  | true => exact ⟨[], 1, by simp, fun a c w h => (peaks_nan a c xs w hl hn h).mono fun _ _ => pres_none, fun a c w h => (refPeaks_nan a c xs w hl hn h).mono fun _ _ => pres_none⟩
  | false => exact ⟨tops xs xs.length, 0, Nat.le_trans (tops_le ..) hl, fun a c w h => (peaks_c a c _ xs w rfl hl hn h).mono fun _ _ => pres_some, fun a c w h => (refPeaks_c a c _ xs w rfl hl hn h).mono fun _ _ => pres_some⟩
theorem row_lit {w : World} {base E n c : Nat} {a : Option Addr} {xs : List Value} (h : w.ownsRow base E 1 (.slice a n c) n xs) : Row w a xs := by
  obtain ⟨a', c', e, _, hr⟩ := row_of_owns h
  cases e
  exact hr
theorem kept_none {bk j base T : Nat} {w w' : World} {e : Ent} (_hbk : bk < w.heap.size) (k : Kept bk j base T w (.slice none 0 0) [] e w') :
    ∃ sa sc hb, w'.cell? ⟨bk, 0, none⟩ = some (.int .i64 e.n) ∧ w'.cell? ⟨bk, j, none⟩ = some (.slice (some ⟨hb, 0, none⟩) 1 sc) ∧ (∀ i, w'.frozen? ⟨bk, i, none⟩ = false) ∧ Own3 base T w' (.slice (some ⟨hb, 0, none⟩) 1 sc) [e] ∧ w.heap.size ≤ hb ∧ hb < w'.heap.size ∧
      Holds w' hb [e] ∧ Chg w w' (fun g => g = bk) ∧ Rest bk j w w' ∧ sa = some (⟨hb, 0, none⟩ : Addr) := by
  obtain ⟨sa1, sc1, c1, z0, z1, f1, r1, p1, q1⟩ := k
  obtain ⟨hb, cap, e2, hh, hb2, hb3⟩ := p1.holds (by simp)
  have e3 : Value.slice sa1 1 sc1 = .slice (some ⟨hb, 0, none⟩) 1 cap := e2
  cases e3
  refine ⟨_, sc1, hb, z0, z1, f1, p1, ?_, hb3, hh, c1.mono (fun g _ h => h.elim id (fun h => absurd h (by simp [Value.ownBlock]))), r1, rfl⟩
  rcases q1 with h' | ⟨b, h', h2⟩
  · have h2 : (Value.slice (some ⟨hb, 0, none⟩) 1 sc1).ownBlock = none := h'
    cases h2
  · have h3 : (Value.slice (some ⟨hb, 0, none⟩) 1 sc1).ownBlock = some b := h'
    cases h3
    exact h2
theorem fn_ready {base : Nat} {n1 n2 : Nat} {t p : Value} {xs ys : List Value} {w4 w5 w6 : World} {T : Nat} (h1 : n1 ≤ 1000000000) (h2 : n2 ≤ 1000000000) (hbase : base ≤ w4.heap.size)
    (ht : w4.ownsRow base 65 1 t n1 xs) (hp : w4.ownsRow base 3 1 p n2 ys) (htp : ∀ g, t.ownBlock = some g → p.ownBlock ≠ some g)
    (k1 : Kept w4.heap.size 3 base 79 (w4.alloc (.cells bookCells T)) (.slice none 0 0) [] (Ent.mk t 1 n1) w5) (k2 : Kept w4.heap.size 2 base 77 w5 (.slice none 0 0) [] (Ent.mk p 2 n2) w6) :
    ∃ hbF hbN capF capN, FN w4.heap.size hbF hbN capF capN base [Ent.mk t 1 n1] [Ent.mk p 2 n2] w6 ∧ w4.heap.size ≤ hbF ∧ w4.heap.size ≤ hbN ∧ Chg (w4.alloc (.cells bookCells T)) w6 (fun g => g = w4.heap.size) := by
  obtain ⟨sa, sc, hbF, a0, a1, a2, a3, a4, a5, a6, a7, a8, -⟩ := kept_none (by simp) k1
  have hs5 : w4.heap.size < w5.heap.size := by have := a7.size; simp at this; omega
  obtain ⟨sb, sd, hbN, b0, b1, b2, b3, b4, b5, b6, b7, b8, -⟩ := kept_none hs5 k2
  have hc := a7.trans b7
  have hs4 : (w4.alloc (.cells bookCells T)).heap.size = w4.heap.size + 1 := by simp
  rw [hs4] at a4
  have hFb : hbF ≠ w4.heap.size := by omega
  have hn := (book_new w4 T).2.2
  have lt := fun g (h : t.ownBlock = some g) => (ht.lt g h).2
  have lp := fun g (h : p.ownBlock = some g) => (hp.lt g h).2
  have ht6 := hc.row (ht.alloc _) (fun g hg e => by have := lt g hg; omega)
  have hp6 := hc.row (hp.alloc _) (fun g hg e => by have := lp g hg; omega)
  have bt : ∀ g, Blocks [Ent.mk t 1 n1] g → t.ownBlock = some g := by
    rintro g ⟨i, hi, hg⟩
    match i, hi, hg with
    | 0, _, hg => exact hg
  have bp : ∀ g, Blocks [Ent.mk p 2 n2] g → p.ownBlock = some g := by
    rintro g ⟨i, hi, hg⟩
    match i, hi, hg with
    | 0, _, hg => exact hg
  have hs6 := b7.size
  refine ⟨hbF, hbN, sc, sd, ⟨?_, b1, ?_, a6.chg b7 hFb, b6, ?_, ?_, ?_, ?_, ?_, ?_, ⟨by omega, by omega, by omega, by omega, by omega⟩, by omega, ?_, ?_, by simp, by simp⟩, by omega, by omega, hc⟩
  · rw [b8 3 (by decide) (by decide)]
    exact a1
  · rintro i ⟨h0, h2, h3⟩ h16
    rw [b8 i h0 h2, a8 i h0 h3]
    exact hn i h0 h16
  · intro i hi
    match i, hi with
    | 0, _ => exact ⟨_, ht6⟩
  · intro i hi
    match i, hi with
    | 0, _ => exact ⟨_, hp6⟩
  · intro i j hi hj hij
    match i, hi, j, hj with
    | 0, _, 0, _ => exact absurd rfl hij
  · intro i j hi hj hij
    match i, hi, j, hj with
    | 0, _, 0, _ => exact absurd rfl hij
  · intro g hg
    have h := bt g hg
    have := lt g h
    exact ⟨by omega, by omega, by omega, fun h' => htp g h (bp g h'), by omega⟩
  · intro g hg
    have h := bp g hg
    have := lp g h
    exact ⟨by omega, by omega, by omega, fun h' => htp g (bt g h') h, by omega⟩
  · intro i hi
    match i, hi with
    | 0, _ => exact ⟨by simp, h1, markF1⟩
  · intro i hi
    match i, hi with
    | 0, _ => exact ⟨by simp, h2⟩
theorem apFN_c (w0 w4 w5 w6 : World) (t p : Value) (n1 n2 : Nat) (xs ys : List Value) (hE : Ext w0 w4) (h1 : n1 ≤ 1000000000) (h2 : n2 ≤ 1000000000)
    (ht : w4.ownsRow w0.heap.size 65 1 t n1 xs) (hp : w4.ownsRow w0.heap.size 3 1 p n2 ys) (htp : ∀ g, t.ownBlock = some g → p.ownBlock ≠ some g)
    (k1 : Kept w4.heap.size 3 w0.heap.size 79 (w4.alloc (.cells bookCells 46)) (.slice none 0 0) [] (Ent.mk t 1 n1) w5) (k2 : Kept w4.heap.size 2 w0.heap.size 77 w5 (.slice none 0 0) [] (Ent.mk p 2 n2) w6) :
    Calls Tryz.prog 9 #[.pointer (some ⟨w4.heap.size, 0, none⟩)] w6 fun e w' => e = .returned (.bool true) ∧ Ext w0 w' := by
  have hs4 := hE.size
  obtain ⟨hbF, hbN, capF, capN, hfn, x1, x2, x3⟩ := fn_ready h1 h2 hs4 ht hp htp k1 k2
  refine (apart_fn _ _ _ _ _ _ _ _ w6 hfn).mono fun e w' h => ⟨h.1, ?_⟩
  have e1 : Ext w0 w6 := x3.ext w0 (hE.al _) (fun k hk e => by omega)
  refine h.2.ext w0 e1 fun k hk => ?_
  rintro ((⟨i, hi, hg⟩ | rfl) | (⟨i, hi, hg⟩ | rfl))
  · match i, hi, hg with
    | 0, _, hg => have := (ht.lt k hg).1; omega
  · omega
  · match i, hi, hg with
    | 0, _, hg => have := (hp.lt k hg).1; omega
  · omega
end Go.Proofs.YtbpjggljbkppaaaGreatDoor
