/-
  The law GratingPeaks: the walk.
-/
import Derived.Test.YtbpjggljbkppaaaGreatDoorPeaksL
namespace Go.Proofs.YtbpjggljbkppaaaGreatDoor
open Go Go.RowKit Go.Proofs
theorem num_of_k1 {w4 w5 : World} {base : Nat} {t : Value} {n1 : Nat} {la : Option Addr} {len lc : Nat} (k1 : Kept w4.heap.size 3 base 79 (w4.alloc (.cells bookCells 46)) (.slice none 0 0) [] (Ent.mk t 1 n1) w5) (hb : base ≤ w4.heap.size) :
    Calls Tryz.prog 17 #[.pointer (some ⟨w4.heap.size, 0, none⟩), .slice la len lc] w5 fun e w6 => e = .returned (.tuple #[]) ∧
      Kept w4.heap.size 2 base 77 w5 (.slice none 0 0) [] (Ent.mk (.slice la len lc) 2 len) w6 := by
  obtain ⟨sa, sc, hbF, a0, a1, a2, a3, a4, a5, a6, a7, a8, -⟩ := kept_none (by simp) k1
  refine numbers1_c w4.heap.size w5 base la len lc (by have := a7.size; simp at this; omega) a0 ?_ a2
  rw [a8 2 (by decide) (by decide)]
  exact (book_new w4 _).2.2 2 (by decide) (by decide)
set_option maxHeartbeats 3200000 in
set_option maxRecDepth 100000 in
theorem peaks_walk (a : Option Addr) (c n : Nat) (xs : List Nat) (w : World) (hlen : xs.length = n) (hn : (n : Int) ≤ 9223372036854775807) (h : Row w a (xs.map flV)) :
    Calls Tryz.prog 4 #[.slice a n c] w fun e w' => e = .returned (.bool true) ∧ Ext w w' := by
  obtain ⟨W0, hW0⟩ : ∃ W0, W0 = w.alloc (.cells #[.int .i64 n] 3) := ⟨_, rfl⟩
  have hE0 : Ext w W0 := by rw [hW0]; exact (Ext.refl w).al _
  have hcell : W0.cell? ⟨w.heap.size, 0, none⟩ = some (.int .i64 n) := by rw [hW0]; go_simp
  have hbey := beyond1_c w.heap.size n W0 hn hcell
  by_cases hbig : 1048576 < n
  · rw [decide_eq_true hbig] at hbey
    replace hbey := mkHid hbey
    replace hE0 := mkHid hE0
    clear hcell
    go_enter Tryz.func4, Tryz.ntmps4
    replace hW0 := mkHid hW0
    go_wp2_with (go_at_call 10; rw [← hW0.out]; refine hbey.out.mono ?_; rintro e w' ⟨rfl, rfl⟩)
    go_ret
    exact ⟨rfl, hE0.out⟩
  · rw [decide_eq_false hbig] at hbey
    have hl : n ≤ 1048576 := by omega
    replace hbey := mkHid hbey
    obtain ⟨ps, code, hps, hA, hR⟩ := peaks_uni xs (by omega)
    rw [hlen] at hA hR
    have hT := twinFloats_c a c n xs W0 hlen hl (h.ext hE0)
    have hrow := mkHid (h.ext hE0)
    have htk : (xs.map flV ++ [spareV]).take n = xs.map flV := by rw [← hlen, List.take_append_of_le_length (by simp), List.take_of_length_le (by simp)]
    replace htk := mkHid htk
    replace hA := mkHid hA
    replace hR := mkHid hR
    replace hT := mkHid hT
    replace hE0 := mkHid hE0
    replace hlen := mkHid hlen
    clear hcell h
    go_enter Tryz.func4, Tryz.ntmps4
    replace hW0 := mkHid hW0
    go_wp2_with (first
      | (go_at_call 10; rw [← hW0.out]; refine hbey.out.mono ?_; rintro e w' ⟨rfl, rfl⟩)
      | (go_at_call 11; refine hT.out.mono ?_; rintro e w1 ⟨rfl, ht, hE1⟩; have hr := mkHid (hrow.out.ext hE1); have htr := row_lit ht; have ht2 := ownsRow_take ht (Nat.le_succ n); rw [htk.out] at ht2; have htl := (ht.lt _ rfl).2; replace ht2 := mkHid ht2; replace htl := mkHid htl; replace htr := mkHid htr; clear ht; replace hE1 := mkHid hE1)
      | (go_at_call 12; refine (hA.out _ _ w1 (row_lit ht2.out)).mono ?_; rintro e w2 ⟨pa, pc, rfl, hp, hE2⟩; replace hr := mkHid (hr.out.ext hE2); replace htr := mkHid (htr.out.ext hE2); replace ht2 := mkHid (ownsRow_ext ht2.out hE2); replace hE1 := mkHid (hE1.out.trans hE2); have hpl := mkHid (fun g e => (hp.lt g e).1); replace hp := mkHid hp; replace hE2 := mkHid hE2)
      | (go_at_call 13; refine (hR.out _ _ w2 hr.out).mono ?_; rintro e w3 ⟨qa, qc, rfl, hq, hE3⟩; replace hr := mkHid (hr.out.ext hE3); replace htr := mkHid (htr.out.ext hE3); replace ht2 := mkHid (ownsRow_ext ht2.out hE3); replace hE1 := mkHid (hE1.out.trans hE3); replace hp := mkHid (ownsRow_ext hp.out hE3); replace hq := mkHid hq; replace hE3 := mkHid hE3)
      | (go_at_call 14; refine (sameNumbers_c pa qa pc qc ps w3 hps (row_lit hp.out) (row_lit hq.out)).mono ?_; rintro e w4 ⟨rfl, hE4⟩; replace hr := mkHid (hr.out.ext hE4); replace htr := mkHid (htr.out.ext hE4); replace ht2 := mkHid (ownsRow_ext ht2.out hE4); replace hE1 := mkHid (hE1.out.trans hE4); replace hp := mkHid (ownsRow_ext hp.out hE4); replace hE4 := mkHid hE4)
      | (go_at_call 15; refine (leftFloats_c W0.heap.size a c n xs w4 hlen.out hl htr.out hr.out).mono ?_; rintro e w5 ⟨rfl, hE5⟩; replace hr := mkHid (hr.out.ext hE5); replace htr := mkHid (htr.out.ext hE5); replace ht2 := mkHid (ownsRow_ext ht2.out hE5); replace hE1 := mkHid (hE1.out.trans hE5); replace hp := mkHid (ownsRow_ext hp.out hE5); replace hE5 := mkHid hE5)
      | (go_at_call 16; refine (floats1_c w5 w.heap.size _ n (n + 1) (Nat.le_trans hE0.out.size hE1.out.size)).mono ?_; rintro e w6 ⟨rfl, hk1⟩; replace hk1 := mkHid hk1)
      | (go_at_call 17; refine (num_of_k1 hk1.out (Nat.le_trans hE0.out.size hE1.out.size)).mono ?_; rintro e w7 ⟨rfl, hk2⟩; replace hk2 := mkHid hk2)
      | (go_at_call 9; refine (apFN_c w w5 w6 w7 _ _ n ps.length _ _ (hE0.out.trans hE1.out) (by omega) (by omega) (ownsRow_mono ht2.out hE0.out.size) (ownsRow_mono hp.out (Nat.le_trans hE0.out.size (Nat.le_of_lt htl.out))) (fun g e1 e2 => by cases e1; have x1 : w1.heap.size ≤ W0.heap.size := hpl.out _ e2; have := htl.out; omega) hk1.out hk2.out).mono ?_; rintro e w8 ⟨rfl, hE8⟩; replace hE8 := mkHid hE8))
    go_ret
    exact ⟨rfl, hE8.out⟩
end Go.Proofs.YtbpjggljbkppaaaGreatDoor
