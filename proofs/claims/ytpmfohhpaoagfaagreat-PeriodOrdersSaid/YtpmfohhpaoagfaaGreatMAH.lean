/-
  period: Power: printed by tools/gen_pow.py. period: Chebyshev and Power for whatever comes in; the plain law of Chebyshev's numbers.
-/
import Derived.Test.YtpmfohhpaoagfaaGreatMAG
import Derived.Test.YtpmfohhpaoagfaaGreatMAD
namespace Go.Proofs.YtpmfohhpaoagfaaGreat
open Go Go.RowKit Go.Proofs
theorem fst_fracR {ss : List Fresh.FSpec} (q : Rat) (h : Fresh.StableAll Ext ss) : Fresh.StableAll Ext (.pred (fun W v => FracR W v q) :: ss) := ⟨fun _ _ _ e h => FracR.ext h e, h⟩
/-- A matrix of four fractions that reads so. -/
def MatR (w : World) (v : Value) (a b c d : Rat) : Prop :=
  ∃ P1 P2 P3 P4 P5 P6 P7 P8 Q1 Q2 Q3 Q4 Q5 Q6 Q7 Q8 S1 S2 S3 S4 S5 S6 S7 S8 T1 T2 T3 T4 T5 T6 T7 T8, v = .agg #[.bool P1, .slice P2 P3 P4, .bool P5, .slice P6 P7 P8, .bool Q1, .slice Q2 Q3 Q4, .bool Q5, .slice Q6 Q7 Q8, .bool S1, .slice S2 S3 S4, .bool S5, .slice S6 S7 S8, .bool T1, .slice T2 T3 T4, .bool T5, .slice T6 T7 T8] ∧ FracR w (.agg #[.bool P1, .slice P2 P3 P4, .bool P5, .slice P6 P7 P8]) a ∧ FracR w (.agg #[.bool Q1, .slice Q2 Q3 Q4, .bool Q5, .slice Q6 Q7 Q8]) b ∧ FracR w (.agg #[.bool S1, .slice S2 S3 S4, .bool S5, .slice S6 S7 S8]) c ∧ FracR w (.agg #[.bool T1, .slice T2 T3 T4, .bool T5, .slice T6 T7 T8]) d
theorem MatR.ext {w w' : World} {v : Value} {a b c d : Rat} (h : MatR w v a b c d) (e : Ext w w') : MatR w' v a b c d := by
  obtain ⟨P1, P2, P3, P4, P5, P6, P7, P8, Q1, Q2, Q3, Q4, Q5, Q6, Q7, Q8, S1, S2, S3, S4, S5, S6, S7, S8, T1, T2, T3, T4, T5, T6, T7, T8, h0, h1, h2, h3, h4⟩ := h
  exact ⟨P1, P2, P3, P4, P5, P6, P7, P8, Q1, Q2, Q3, Q4, Q5, Q6, Q7, Q8, S1, S2, S3, S4, S5, S6, S7, S8, T1, T2, T3, T4, T5, T6, T7, T8, h0, h1.ext e, h2.ext e, h3.ext e, h4.ext e⟩
theorem fst_matR {ss : List Fresh.FSpec} (a b c d : Rat) (h : Fresh.StableAll Ext ss) : Fresh.StableAll Ext (.pred (fun W v => MatR W v a b c d) :: ss) := ⟨fun _ _ _ e h => MatR.ext h e, h⟩
theorem anyM_zero (w : World) : AnyM w (.agg #[.bool false, .slice none 0 0, .bool false, .slice none 0 0, .bool false, .slice none 0 0, .bool false, .slice none 0 0, .bool false, .slice none 0 0, .bool false, .slice none 0 0, .bool false, .slice none 0 0, .bool false, .slice none 0 0]) none none none none :=
  ⟨_, _, _, _, _, _, _, _, _, _, _, _, _, _, _, _, _, _, _, _, _, _, _, _, _, _, _, _, _, _, _, _, rfl, any_zero w, any_zero w, any_zero w, any_zero w⟩
theorem lr_four {w : World} {g : Nat} {b1 b2 b3 b4 b5 b6 b7 b8 : Bool} {a1 a2 a3 a4 a5 a6 a7 a8 : Option Addr} {n1 c1 n2 c2 n3 c3 n4 c4 n5 c5 n6 c6 n7 c7 n8 c8 : Nat} {o1 o2 o3 o4 : Rat} {T : Nat}
    (hg : w.heap[g]? = some (.cells #[.bool b1, .slice a1 n1 c1, .bool b2, .slice a2 n2 c2, .bool b3, .slice a3 n3 c3, .bool b4, .slice a4 n4 c4, .bool b5, .slice a5 n5 c5, .bool b6, .slice a6 n6 c6, .bool b7, .slice a7 n7 c7, .bool b8, .slice a8 n8 c8] T (0, 0)))
    (h1 : FracR w (.agg #[.bool b1, .slice a1 n1 c1, .bool b2, .slice a2 n2 c2]) o1) (h2 : FracR w (.agg #[.bool b3, .slice a3 n3 c3, .bool b4, .slice a4 n4 c4]) o2)
    (h3 : FracR w (.agg #[.bool b5, .slice a5 n5 c5, .bool b6, .slice a6 n6 c6]) o3) (h4 : FracR w (.agg #[.bool b7, .slice a7 n7 c7, .bool b8, .slice a8 n8 c8]) o4) : LR w g [o1, o2, o3, o4] := by
  intro k hk
  have hk2 : k = 0 ∨ k = 1 ∨ k = 2 ∨ k = 3 := by simp at hk; omega
  rcases hk2 with rfl | rfl | rfl | rfl
  · exact ⟨_, _, _, _, _, _, _, _, by simp [World.cell?, hg], by simp [World.cell?, hg], by simp [World.cell?, hg], by simp [World.cell?, hg], h1⟩
  · exact ⟨_, _, _, _, _, _, _, _, by simp [World.cell?, hg], by simp [World.cell?, hg], by simp [World.cell?, hg], by simp [World.cell?, hg], h2⟩
  · exact ⟨_, _, _, _, _, _, _, _, by simp [World.cell?, hg], by simp [World.cell?, hg], by simp [World.cell?, hg], by simp [World.cell?, hg], h3⟩
  · exact ⟨_, _, _, _, _, _, _, _, by simp [World.cell?, hg], by simp [World.cell?, hg], by simp [World.cell?, hg], by simp [World.cell?, hg], h4⟩
/-- U of one less and of two less, of twice the place. -/
def powU (n : Nat) (t : Rat) : Rat := (itR t n (-1, 0)).2
def powV (n : Nat) (t : Rat) : Rat := (itR t n (-1, 0)).1
def fine4 (a b c d : Rat) : Bool := decide (nf a ≤ 2048) && decide (nf b ≤ 2048) && decide (nf c ≤ 2048) && decide (nf d ≤ 2048)
def fineE (a b c d : Rat) : Int := if fine4 a b c d then 0 else 4
def fineO (a b c d x : Rat) : Option Rat := if fine4 a b c d then some x else none
def pwA (n : Nat) (a d : Rat) : Rat := powU n (a + d) * a - powV n (a + d)
def pwX (n : Nat) (a d b : Rat) : Rat := powU n (a + d) * b
def powE (n : Nat) (a b c d : Rat) : Int := fineE (pwA n a d) (pwX n a d b) (pwX n a d c) (pwA n d a)
def powOA (n : Nat) (a b c d : Rat) : Option Rat := fineO (pwA n a d) (pwX n a d b) (pwX n a d c) (pwA n d a) (pwA n a d)
def powOB (n : Nat) (a b c d : Rat) : Option Rat := fineO (pwA n a d) (pwX n a d b) (pwX n a d c) (pwA n d a) (pwX n a d b)
def powOC (n : Nat) (a b c d : Rat) : Option Rat := fineO (pwA n a d) (pwX n a d b) (pwX n a d c) (pwA n d a) (pwX n a d c)
def powOD (n : Nat) (a b c d : Rat) : Option Rat := fineO (pwA n a d) (pwX n a d b) (pwX n a d c) (pwA n d a) (pwA n d a)
theorem pow_big (n : Nat) (a d : Rat) (hn : n ≤ 4096) (ha : nf a ≤ 2048) (hd : nf d ≤ 2048) : bigR (a + d) n (-1, 0) := by
  have h0 := nf_add_le a d
  have h1 : nl (a + d).num ≤ 4097 := Nat.le_trans (Nat.le_max_left _ _) (show nf (a + d) ≤ 4097 by omega)
  have h2 : nl ((a + d).den : Int) ≤ 4097 := Nat.le_trans (Nat.le_max_right _ _) (show nf (a + d) ≤ 4097 by omega)
  have h3 : nf (a + d) ≤ 67108864 := by omega
  have hz := rat_den (a + d)
  have hQ : 0 < (a + d).den := Nat.pos_of_ne_zero (a + d).den_nz
  generalize a + d = z at *
  refine big_of z (-1, 0) n z.num z.den 1 hn hQ h3 hz ⟨-(z.den : Int), ?_, by simp⟩ ⟨0, rfl, by simp⟩ ?_ (Nat.le_trans (nl_small (by decide)) (by decide))
  · have e : ((-(z.den : Int) : Int) : Rat) = -(z.den : Rat) := by push_cast; rfl
    rw [e]
    generalize (z.den : Rat) = q
    grind
  · have e1 := nl_add (z.num.natAbs : Int) (z.den : Int)
    have e2 : nl ((z.num.natAbs : Nat) : Int) = nl z.num := by unfold nl; rw [Int.natAbs_natCast]
    rw [Int.natCast_add]
    omega

set_option maxRecDepth 100000 in
set_option maxHeartbeats 6400000 in
theorem power_none (n : Int) (v : Value) (oa ob oc od : Option Rat) (w : World) (h : AnyM w v oa ob oc od) (hk : okM oa ob oc od = false) :
    Calls Tryz.prog 35 #[v, .int .i64 n] w fun e w' => ∃ p, e = .returned (.tuple #[p, .int .i64 1]) ∧ Ext w w' ∧ AnyM w' p none none none none := by
  have H := h
  obtain ⟨A1, A2, A3, A4, A5, A6, A7, A8, B1, B2, B3, B4, B5, B6, B7, B8, C1, C2, C3, C4, C5, C6, C7, C8, D1, D2, D3, D4, D5, D6, D7, D8, rfl, -⟩ := h
  obtain ⟨wb, hwb⟩ : ∃ wb, wb = (w.alloc (.cells #[.bool A1, .slice A2 A3 A4, .bool A5, .slice A6 A7 A8, .bool B1, .slice B2 B3 B4, .bool B5, .slice B6 B7 B8, .bool C1, .slice C2 C3 C4, .bool C5, .slice C6 C7 C8, .bool D1, .slice D2 D3 D4, .bool D5, .slice D6 D7 D8] 28)).alloc (.cells #[.bool false, .slice none 0 0, .bool false, .slice none 0 0, .bool false, .slice none 0 0, .bool false, .slice none 0 0, .bool false, .slice none 0 0, .bool false, .slice none 0 0, .bool false, .slice none 0 0, .bool false, .slice none 0 0] 28) := ⟨_, rfl⟩
  have hE : Ext w wb := by rw [hwb]; exact ((Ext.refl w).al _).al _
  have z0 : wb.heap[w.heap.size]? = some (.cells #[.bool A1, .slice A2 A3 A4, .bool A5, .slice A6 A7 A8, .bool B1, .slice B2 B3 B4, .bool B5, .slice B6 B7 B8, .bool C1, .slice C2 C3 C4, .bool C5, .slice C6 C7 C8, .bool D1, .slice D2 D3 D4, .bool D5, .slice D6 D7 D8] 28 (0, 0)) := by rw [hwb]; exact (heap_alloc_old _ _ (by simp)).trans (heap_alloc_new _ _)
  have z1 : wb.heap[w.heap.size + 1]? = some (.cells #[.bool false, .slice none 0 0, .bool false, .slice none 0 0, .bool false, .slice none 0 0, .bool false, .slice none 0 0, .bool false, .slice none 0 0, .bool false, .slice none 0 0, .bool false, .slice none 0 0, .bool false, .slice none 0 0] 28 (0, 0)) := by rw [hwb]; exact heap_at _ _ _ (by simp)
  have kc := mkHid (check_m _ _ _ _ _ wb (H.ext hE))
  replace z0 := mkHid z0
  replace z1 := mkHid z1
  replace hE := mkHid hE
  replace hwb := mkHid hwb
  rw [hk, if_neg (by decide)] at kc
  clear H hk
  go_enter Tryz.func35, Tryz.ntmps35
  go_wp2_with fail
  rw [← hwb.out]
  clear hwb
  refine kc.out.mono ?_
  rintro e w1 ⟨rfl, hE1⟩
  replace hE := mkHid (hE.out.trans hE1)
  replace z1 := mkHid (hE1.blk z1.out)
  clear hE1 kc z0
  have FE := (hE.out.row (show w.heap.size ≤ w.heap.size + 1 by omega) #[.bool false, .slice none 0 0, .bool false, .slice none 0 0, .bool false, .slice none 0 0, .bool false, .slice none 0 0, .bool false, .slice none 0 0, .bool false, .slice none 0 0, .bool false, .slice none 0 0, .bool false, .slice none 0 0])
  have FR := anyM_zero (w1.setRow (w.heap.size + 1) #[.bool false, .slice none 0 0, .bool false, .slice none 0 0, .bool false, .slice none 0 0, .bool false, .slice none 0 0, .bool false, .slice none 0 0, .bool false, .slice none 0 0, .bool false, .slice none 0 0, .bool false, .slice none 0 0])
  replace FE := mkHid FE
  replace FR := mkHid FR
  go_wp2_with (refine wpList_store_row rfl 28 (.tmp 4) (.tmp 15) rfl (w.heap.size + 1) #[.bool false, .slice none 0 0, .bool false, .slice none 0 0, .bool false, .slice none 0 0, .bool false, .slice none 0 0, .bool false, .slice none 0 0, .bool false, .slice none 0 0, .bool false, .slice none 0 0, .bool false, .slice none 0 0] rfl rfl 28 _ z1.out (by kernel_rfl) rfl (by kernel_rfl) ?_)
  exact bodyPost_ret (results_row_tmp rfl _ _ (w.heap.size + 1) 28 #[.bool false, .slice none 0 0, .bool false, .slice none 0 0, .bool false, .slice none 0 0, .bool false, .slice none 0 0, .bool false, .slice none 0 0, .bool false, .slice none 0 0, .bool false, .slice none 0 0, .bool false, .slice none 0 0] _ _ rfl rfl (setRow_heap _ _ _ _ _ _ z1.out) Tryz.underlying28 rfl (by kernel_rfl)) rfl ⟨_, rfl, FE.out, FR.out⟩
set_option maxRecDepth 100000 in
set_option maxHeartbeats 6400000 in
theorem power_count (n : Int) (v : Value) (oa ob oc od : Option Rat) (w : World) (h : AnyM w v oa ob oc od) (hk : okM oa ob oc od = true) (hn : n < 0 ∨ 4096 < n) :
    Calls Tryz.prog 35 #[v, .int .i64 n] w fun e w' => ∃ p, e = .returned (.tuple #[p, .int .i64 (countE n)]) ∧ Ext w w' ∧ AnyM w' p none none none none := by
  have H := h
  obtain ⟨A1, A2, A3, A4, A5, A6, A7, A8, B1, B2, B3, B4, B5, B6, B7, B8, C1, C2, C3, C4, C5, C6, C7, C8, D1, D2, D3, D4, D5, D6, D7, D8, rfl, -⟩ := h
  obtain ⟨wb, hwb⟩ : ∃ wb, wb = (w.alloc (.cells #[.bool A1, .slice A2 A3 A4, .bool A5, .slice A6 A7 A8, .bool B1, .slice B2 B3 B4, .bool B5, .slice B6 B7 B8, .bool C1, .slice C2 C3 C4, .bool C5, .slice C6 C7 C8, .bool D1, .slice D2 D3 D4, .bool D5, .slice D6 D7 D8] 28)).alloc (.cells #[.bool false, .slice none 0 0, .bool false, .slice none 0 0, .bool false, .slice none 0 0, .bool false, .slice none 0 0, .bool false, .slice none 0 0, .bool false, .slice none 0 0, .bool false, .slice none 0 0, .bool false, .slice none 0 0] 28) := ⟨_, rfl⟩
  have hE : Ext w wb := by rw [hwb]; exact ((Ext.refl w).al _).al _
  have z0 : wb.heap[w.heap.size]? = some (.cells #[.bool A1, .slice A2 A3 A4, .bool A5, .slice A6 A7 A8, .bool B1, .slice B2 B3 B4, .bool B5, .slice B6 B7 B8, .bool C1, .slice C2 C3 C4, .bool C5, .slice C6 C7 C8, .bool D1, .slice D2 D3 D4, .bool D5, .slice D6 D7 D8] 28 (0, 0)) := by rw [hwb]; exact (heap_alloc_old _ _ (by simp)).trans (heap_alloc_new _ _)
  have z1 : wb.heap[w.heap.size + 1]? = some (.cells #[.bool false, .slice none 0 0, .bool false, .slice none 0 0, .bool false, .slice none 0 0, .bool false, .slice none 0 0, .bool false, .slice none 0 0, .bool false, .slice none 0 0, .bool false, .slice none 0 0, .bool false, .slice none 0 0] 28 (0, 0)) := by rw [hwb]; exact heap_at _ _ _ (by simp)
  have kc := mkHid (check_m _ _ _ _ _ wb (H.ext hE))
  replace z0 := mkHid z0
  replace z1 := mkHid z1
  replace hE := mkHid hE
  replace hwb := mkHid hwb
  rw [hk, if_pos rfl] at kc
  clear H hk
  have kn := mkHid (fun w => counted_c n w)
  have hc : (countE n == 0) = false := by
    unfold countE
    rcases hn with h | h
    · rw [if_pos h]; rfl
    · rw [if_neg (by omega), if_pos h]; rfl
  generalize countE n = C at *
  replace hn := mkHid hn
  go_enter Tryz.func35, Tryz.ntmps35
  go_wp2_with fail
  rw [← hwb.out]
  clear hwb
  refine kc.out.mono ?_
  rintro e w1 ⟨rfl, hE1⟩
  replace hE := mkHid (hE.out.trans hE1)
  replace z1 := mkHid (hE1.blk z1.out)
  clear hE1 kc z0
  go_wp2_with fail
  refine (kn.out w1).mono ?_
  rintro e w2 ⟨rfl, rfl⟩
  have FE := (hE.out.row (show w.heap.size ≤ w.heap.size + 1 by omega) #[.bool false, .slice none 0 0, .bool false, .slice none 0 0, .bool false, .slice none 0 0, .bool false, .slice none 0 0, .bool false, .slice none 0 0, .bool false, .slice none 0 0, .bool false, .slice none 0 0, .bool false, .slice none 0 0])
  have FR := anyM_zero (w2.setRow (w.heap.size + 1) #[.bool false, .slice none 0 0, .bool false, .slice none 0 0, .bool false, .slice none 0 0, .bool false, .slice none 0 0, .bool false, .slice none 0 0, .bool false, .slice none 0 0, .bool false, .slice none 0 0, .bool false, .slice none 0 0])
  replace FE := mkHid FE
  replace FR := mkHid FR
  go_wp2_with (refine wpList_store_row rfl 28 (.tmp 4) (.tmp 20) rfl (w.heap.size + 1) #[.bool false, .slice none 0 0, .bool false, .slice none 0 0, .bool false, .slice none 0 0, .bool false, .slice none 0 0, .bool false, .slice none 0 0, .bool false, .slice none 0 0, .bool false, .slice none 0 0, .bool false, .slice none 0 0] rfl rfl 28 _ z1.out (by kernel_rfl) rfl (by kernel_rfl) ?_)
  exact bodyPost_ret (results_row_tmp rfl _ _ (w.heap.size + 1) 28 #[.bool false, .slice none 0 0, .bool false, .slice none 0 0, .bool false, .slice none 0 0, .bool false, .slice none 0 0, .bool false, .slice none 0 0, .bool false, .slice none 0 0, .bool false, .slice none 0 0, .bool false, .slice none 0 0] _ _ rfl rfl (setRow_heap _ _ _ _ _ _ z1.out) Tryz.underlying28 rfl (by kernel_rfl)) rfl ⟨_, rfl, FE.out, FR.out⟩
set_option maxRecDepth 100000 in
set_option maxHeartbeats 6400000 in
theorem power_fine (n : Nat) (v : Value) (a b c d : Rat) (w : World) (h : AnyM w v (some a) (some b) (some c) (some d)) (hk : okM (some a) (some b) (some c) (some d) = true) (hn : n ≤ 4096) :
    Calls Tryz.prog 35 #[v, .int .i64 (n : Nat)] w fun e w' => ∃ p, e = .returned (.tuple #[p, .int .i64 (powE n a b c d)]) ∧ Ext w w' ∧ AnyM w' p (powOA n a b c d) (powOB n a b c d) (powOC n a b c d) (powOD n a b c d) := by
  have H := h
  obtain ⟨A1, A2, A3, A4, A5, A6, A7, A8, B1, B2, B3, B4, B5, B6, B7, B8, C1, C2, C3, C4, C5, C6, C7, C8, D1, D2, D3, D4, D5, D6, D7, D8, rfl, -⟩ := h
  obtain ⟨wb, hwb⟩ : ∃ wb, wb = (w.alloc (.cells #[.bool A1, .slice A2 A3 A4, .bool A5, .slice A6 A7 A8, .bool B1, .slice B2 B3 B4, .bool B5, .slice B6 B7 B8, .bool C1, .slice C2 C3 C4, .bool C5, .slice C6 C7 C8, .bool D1, .slice D2 D3 D4, .bool D5, .slice D6 D7 D8] 28)).alloc (.cells #[.bool false, .slice none 0 0, .bool false, .slice none 0 0, .bool false, .slice none 0 0, .bool false, .slice none 0 0, .bool false, .slice none 0 0, .bool false, .slice none 0 0, .bool false, .slice none 0 0, .bool false, .slice none 0 0] 28) := ⟨_, rfl⟩
  have hE : Ext w wb := by rw [hwb]; exact ((Ext.refl w).al _).al _
  have z0 : wb.heap[w.heap.size]? = some (.cells #[.bool A1, .slice A2 A3 A4, .bool A5, .slice A6 A7 A8, .bool B1, .slice B2 B3 B4, .bool B5, .slice B6 B7 B8, .bool C1, .slice C2 C3 C4, .bool C5, .slice C6 C7 C8, .bool D1, .slice D2 D3 D4, .bool D5, .slice D6 D7 D8] 28 (0, 0)) := by rw [hwb]; exact (heap_alloc_old _ _ (by simp)).trans (heap_alloc_new _ _)
  have z1 : wb.heap[w.heap.size + 1]? = some (.cells #[.bool false, .slice none 0 0, .bool false, .slice none 0 0, .bool false, .slice none 0 0, .bool false, .slice none 0 0, .bool false, .slice none 0 0, .bool false, .slice none 0 0, .bool false, .slice none 0 0, .bool false, .slice none 0 0] 28 (0, 0)) := by rw [hwb]; exact heap_at _ _ _ (by simp)
  have kc := mkHid (check_m _ _ _ _ _ wb (H.ext hE))
  replace z0 := mkHid z0
  replace z1 := mkHid z1
  replace hE := mkHid hE
  replace hwb := mkHid hwb
  rw [hk, if_pos rfl] at kc
  clear hk
  have kn := mkHid (fun w => counted_c (n : Int) w)
  have hc : countE (n : Int) = 0 := by unfold countE; rw [if_neg (by omega), if_neg (by omega)]
  rw [hc] at kn
  clear hc
  obtain ⟨A_1, A_2, A_3, A_4, A_5, A_6, A_7, A_8, B_1, B_2, B_3, B_4, B_5, B_6, B_7, B_8, C_1, C_2, C_3, C_4, C_5, C_6, C_7, C_8, D_1, D_2, D_3, D_4, D_5, D_6, D_7, D_8, hh, h1, h2, h3, h4⟩ := H.ext hE.out
  simp only [Value.agg.injEq, Array.mk.injEq, List.cons.injEq, Value.bool.injEq, Value.slice.injEq, and_true, and_assoc] at hh
  obtain ⟨rfl, rfl, rfl, rfl, rfl, rfl, rfl, rfl, rfl, rfl, rfl, rfl, rfl, rfl, rfl, rfl, rfl, rfl, rfl, rfl, rfl, rfl, rfl, rfl, rfl, rfl, rfl, rfl, rfl, rfl, rfl, rfl⟩ := hh
  obtain ⟨fA, nA⟩ := h1.frac
  obtain ⟨fB, nB⟩ := h2.frac
  obtain ⟨fC, nC⟩ := h3.frac
  obtain ⟨fD, nD⟩ := h4.frac
  have big := pow_big n a d hn nA nD
  have ks := mkHid (fun w => small_f (-1) 1 w (by omega) (by omega) (by omega) (by omega) (by omega))
  rw [show Rat.divInt (-1) 1 = -1 by kernel_rfl] at ks
  have ko := mkHid nought_f
  have kp := mkHid (fun W h h' => plus_f (.agg #[.bool A1, .slice A2 A3 A4, .bool A5, .slice A6 A7 A8]) (.agg #[.bool D1, .slice D2 D3 D4, .bool D5, .slice D6 D7 D8]) a d W (by omega) (by omega) h h')
  replace big := mkHid big
  replace nA := mkHid nA
  replace nB := mkHid nB
  replace nC := mkHid nC
  replace nD := mkHid nD
  replace fA := mkHid fA
  replace fB := mkHid fB
  replace fC := mkHid fC
  replace fD := mkHid fD
  clear H h1 h2 h3 h4
  go_enter Tryz.func35, Tryz.ntmps35
  go_wp2_with fail
  rw [← hwb.out]
  clear hwb
  refine kc.out.mono ?_
  rintro e w1 ⟨rfl, hE1⟩
  replace hE := mkHid (hE.out.trans hE1)
  replace z0 := mkHid (hE1.blk z0.out)
  replace z1 := mkHid (hE1.blk z1.out)
  replace fA := mkHid (fA.out.ext hE1)
  replace fB := mkHid (fB.out.ext hE1)
  replace fC := mkHid (fC.out.ext hE1)
  replace fD := mkHid (fD.out.ext hE1)
  clear hE1 kc
  go_wp2_with fail
  refine (kn.out w1).mono ?_
  rintro e w2 ⟨rfl, rfl⟩
  have hz2 : w.heap.size + 1 < w2.heap.size := (Array.getElem?_eq_some_iff.1 z1.out).1
  go_wp2_with fail
  have m0 : ∀ W, Ext w2 W → W.cell? ⟨w.heap.size, 0, none⟩ = some (.bool A1) := fun W e => by simp [World.cell?, e.blk z0.out]
  have m1 : ∀ W, Ext w2 W → W.cell? ⟨w.heap.size, 1, none⟩ = some (.slice A2 A3 A4) := fun W e => by simp [World.cell?, e.blk z0.out]
  have m2 : ∀ W, Ext w2 W → W.cell? ⟨w.heap.size, 2, none⟩ = some (.bool A5) := fun W e => by simp [World.cell?, e.blk z0.out]
  have m3 : ∀ W, Ext w2 W → W.cell? ⟨w.heap.size, 3, none⟩ = some (.slice A6 A7 A8) := fun W e => by simp [World.cell?, e.blk z0.out]
  have m12 : ∀ W, Ext w2 W → W.cell? ⟨w.heap.size, 12, none⟩ = some (.bool D1) := fun W e => by simp [World.cell?, e.blk z0.out]
  have m13 : ∀ W, Ext w2 W → W.cell? ⟨w.heap.size, 13, none⟩ = some (.slice D2 D3 D4) := fun W e => by simp [World.cell?, e.blk z0.out]
  have m14 : ∀ W, Ext w2 W → W.cell? ⟨w.heap.size, 14, none⟩ = some (.bool D5) := fun W e => by simp [World.cell?, e.blk z0.out]
  have m15 : ∀ W, Ext w2 W → W.cell? ⟨w.heap.size, 15, none⟩ = some (.slice D6 D7 D8) := fun W e => by simp [World.cell?, e.blk z0.out]
  apply region_ext [.pred (fun W v => FracR W v (-1)), .pred (fun W v => FracR W v 0), .val _, .val _, .val _, .val _, .pred (fun W v => FracR W v (a + d))] (by kernel_rfl)
    (st_fracR _ (st_fracR _ (stable_vals _ (stable_vals _ (stable_vals _ (stable_vals _ (st_fracR _ trivial)))))))
  refine ⟨fun W hW _ => ?g0, fun v0 => ⟨fun W hW _ => ?g1, fun v1 => ?_⟩⟩
  case g0 =>
    go_simp
    refine (ks.out W).mono ?_
    rintro e w' ⟨v, rfl, e1, e2⟩
    exact ⟨v, rfl, e1, e2.r⟩
  case g1 =>
    go_simp
    refine (ko.out W).mono ?_
    rintro e w' ⟨v, rfl, e1, e2⟩
    exact ⟨v, rfl, e1, e2.r⟩
  iterate 4 (refine ⟨fun W hW _ => by go_simp; exact ⟨Ext.refl _, rfl⟩, ?_⟩)
  refine ⟨fun W hW _ => ?g6, fun v6 => fun W hW hF => ?fin⟩
  case g6 =>
    go_simp
    refine (kp.out W (fA.out.ext hW) (fD.out.ext hW)).mono ?_
    rintro e w' ⟨v, rfl, e1, e2⟩
    exact ⟨v, rfl, e1, e2.r⟩
  case fin =>
  have d6 : FracR W v6 (a + d) := hF.1 rfl
  have d1 : FracR W v1 0 := hF.2.1 rfl
  have d0 : FracR W v0 (-1) := hF.2.2.1 rfl
  obtain ⟨X1, X2, X3, X4, X5, X6, X7, X8, rfl⟩ := d0.shape
  obtain ⟨Y1, Y2, Y3, Y4, Y5, Y6, Y7, Y8, rfl⟩ := d1.shape
  obtain ⟨Z1, Z2, Z3, Z4, Z5, Z6, Z7, Z8, rfl⟩ := d6.shape
  clear hF m0 m1 m2 m3 m12 m13 m14 m15
  have hEb := (Ext.refl W).al (.cells #[.bool X1, .slice X2 X3 X4, .bool X5, .slice X6 X7 X8, .bool Y1, .slice Y2 Y3 Y4, .bool Y5, .slice Y6 Y7 Y8, .bool Z1, .slice Z2 Z3 Z4, .bool Z5, .slice Z6 Z7 Z8] 80)
  have hB : RowAt (W.alloc (.cells #[.bool X1, .slice X2 X3 X4, .bool X5, .slice X6 X7 X8, .bool Y1, .slice Y2 Y3 Y4, .bool Y5, .slice Y6 Y7 Y8, .bool Z1, .slice Z2 Z3 Z4, .bool Z5, .slice Z6 Z7 Z8] 80)) W.heap.size (-1) 0 (a + d) :=
    ⟨_, _, _, _, _, _, _, _, _, _, _, _, _, _, _, _, _, _, _, _, _, _, _, _, heap_alloc_new _ _, d0.ext hEb, d1.ext hEb, d6.ext hEb⟩
  have hga : w.heap.size + 1 < W.heap.size := Nat.lt_of_lt_of_le hz2 hW.size
  replace hB := mkHid hB
  replace hE := mkHid ((hE.out.trans hW).trans hEb)
  replace z0 := mkHid (hEb.blk (hW.blk z0.out))
  replace z1 := mkHid (hEb.blk (hW.blk z1.out))
  replace fA := mkHid ((fA.out.ext hW).ext hEb)
  replace fB := mkHid ((fB.out.ext hW).ext hEb)
  replace fC := mkHid ((fC.out.ext hW).ext hEb)
  replace fD := mkHid ((fD.out.ext hW).ext hEb)
  clear d0 d1 d6 hEb hW
  go_simp
  go_wp2_with fail
  obtain ⟨wm, hwm⟩ : ∃ wm, wm = W.alloc (.cells #[.bool X1, .slice X2 X3 X4, .bool X5, .slice X6 X7 X8, .bool Y1, .slice Y2 Y3 Y4, .bool Y5, .slice Y6 Y7 Y8, .bool Z1, .slice Z2 Z3 Z4, .bool Z5, .slice Z6 Z7 Z8] 80) := ⟨_, rfl⟩
  have hsm : wm.heap.size = W.heap.size + 1 := by rw [hwm]; simp
  rw [← hwm] at hB hE z0 z1 fA fB fC fD
  rw [← hwm]
  clear hwm
  have hEs := (Ext.refl wm).al (.cells #[.func (.func 65) #[.pointer (some ⟨W.heap.size, 0, none⟩)] #[]] 1)
  have hgs := heap_at wm (.cells #[.func (.func 65) #[.pointer (some ⟨W.heap.size, 0, none⟩)] #[]] 1) (W.heap.size + 1) hsm.symm
  refine (many1_c W.heap.size (W.heap.size + 1) 1 n (a + d) (-1, 0) _ hn (by omega) big.out hgs (hB.out.ext hEs)).mono ?_
  rintro e w5 ⟨rfl, hR, hA5⟩
  have hs5 : W.heap.size < w5.heap.size := by
    obtain ⟨_, _, _, _, _, _, _, _, _, _, _, _, _, _, _, _, _, _, _, _, _, _, _, _, g0, -⟩ := hA5
    exact (Array.getElem?_eq_some_iff.1 g0).1
  replace hE := mkHid (hR.ext w (hE.out.trans hEs) (by omega) (by omega))
  replace z0 := mkHid (hR.blk _ _ (by omega) (by omega) (hEs.blk z0.out))
  replace z1 := mkHid (hR.blk _ _ (by omega) (by omega) (hEs.blk z1.out))
  replace fA := mkHid (hR.frac _ _ (fA.out.ext hEs))
  replace fB := mkHid (hR.frac _ _ (fB.out.ext hEs))
  replace fC := mkHid (hR.frac _ _ (fC.out.ext hEs))
  replace fD := mkHid (hR.frac _ _ (fD.out.ext hEs))
  have bu := (big.out.2 n (Nat.le_refl _)).2
  have bv := (big.out.2 n (Nat.le_refl _)).1
  have eU : (itR (a + d) n (-1, 0)).2 = powU n (a + d) := rfl
  have eV : (itR (a + d) n (-1, 0)).1 = powV n (a + d) := rfl
  rw [eU] at bu hA5
  rw [eV] at bv hA5
  have hpA : pwA n a d = powU n (a + d) * a - powV n (a + d) := rfl
  have hpD : pwA n d a = powU n (a + d) * d - powV n (a + d) := by unfold pwA; rw [show d + a = a + d by grind]
  have hOE : powE n a b c d = fineE (powU n (a + d) * a - powV n (a + d)) (powU n (a + d) * b) (powU n (a + d) * c) (powU n (a + d) * d - powV n (a + d)) := by unfold powE pwX; rw [hpA, hpD]
  have hOP : powOA n a b c d = fineO (powU n (a + d) * a - powV n (a + d)) (powU n (a + d) * b) (powU n (a + d) * c) (powU n (a + d) * d - powV n (a + d)) (powU n (a + d) * a - powV n (a + d)) := by unfold powOA pwX; rw [hpA, hpD]
  have hOQ : powOB n a b c d = fineO (powU n (a + d) * a - powV n (a + d)) (powU n (a + d) * b) (powU n (a + d) * c) (powU n (a + d) * d - powV n (a + d)) (powU n (a + d) * b) := by unfold powOB pwX; rw [hpA, hpD]
  have hOS : powOC n a b c d = fineO (powU n (a + d) * a - powV n (a + d)) (powU n (a + d) * b) (powU n (a + d) * c) (powU n (a + d) * d - powV n (a + d)) (powU n (a + d) * c) := by unfold powOC pwX; rw [hpA, hpD]
  have hOT : powOD n a b c d = fineO (powU n (a + d) * a - powV n (a + d)) (powU n (a + d) * b) (powU n (a + d) * c) (powU n (a + d) * d - powV n (a + d)) (powU n (a + d) * d - powV n (a + d)) := by unfold powOD pwX; rw [hpA, hpD]
  clear hpA hpD
  generalize powU n (a + d) = U at *
  generalize powV n (a + d) = V at *
  replace bu := mkHid bu
  replace bv := mkHid bv
  replace hOE := mkHid hOE
  replace hOP := mkHid hOP
  replace hOQ := mkHid hOQ
  replace hOS := mkHid hOS
  replace hOT := mkHid hOT
  clear hR hEs hgs hB hsm big kp ks ko kn eU eV
  go_wp2_with fail
  obtain ⟨X_1, X_2, X_3, X_4, X_5, X_6, X_7, X_8, Y_1, Y_2, Y_3, Y_4, Y_5, Y_6, Y_7, Y_8, Z_1, Z_2, Z_3, Z_4, Z_5, Z_6, Z_7, Z_8, g0, gV, gU, -⟩ := hA5
  have y0 : ∀ W', Ext w5 W' → W'.cell? ⟨W.heap.size, 0, none⟩ = some (.bool X_1) := fun W e => by simp [World.cell?, e.blk g0]
  have y1 : ∀ W', Ext w5 W' → W'.cell? ⟨W.heap.size, 1, none⟩ = some (.slice X_2 X_3 X_4) := fun W e => by simp [World.cell?, e.blk g0]
  have y2 : ∀ W', Ext w5 W' → W'.cell? ⟨W.heap.size, 2, none⟩ = some (.bool X_5) := fun W e => by simp [World.cell?, e.blk g0]
  have y3 : ∀ W', Ext w5 W' → W'.cell? ⟨W.heap.size, 3, none⟩ = some (.slice X_6 X_7 X_8) := fun W e => by simp [World.cell?, e.blk g0]
  have y4 : ∀ W', Ext w5 W' → W'.cell? ⟨W.heap.size, 4, none⟩ = some (.bool Y_1) := fun W e => by simp [World.cell?, e.blk g0]
  have y5 : ∀ W', Ext w5 W' → W'.cell? ⟨W.heap.size, 5, none⟩ = some (.slice Y_2 Y_3 Y_4) := fun W e => by simp [World.cell?, e.blk g0]
  have y6 : ∀ W', Ext w5 W' → W'.cell? ⟨W.heap.size, 6, none⟩ = some (.bool Y_5) := fun W e => by simp [World.cell?, e.blk g0]
  have y7 : ∀ W', Ext w5 W' → W'.cell? ⟨W.heap.size, 7, none⟩ = some (.slice Y_6 Y_7 Y_8) := fun W e => by simp [World.cell?, e.blk g0]
  replace gU := mkHid gU
  replace gV := mkHid gV
  clear g0
  have q0 := y0 w5 (Ext.refl _)
  have q1 := y1 w5 (Ext.refl _)
  have q2 := y2 w5 (Ext.refl _)
  have q3 := y3 w5 (Ext.refl _)
  have q4 := y4 w5 (Ext.refl _)
  have q5 := y5 w5 (Ext.refl _)
  have q6 := y6 w5 (Ext.refl _)
  have q7 := y7 w5 (Ext.refl _)
  clear y0 y1 y2 y3 y4 y5 y6 y7
  have hneq : w5.heap.size ≠ W.heap.size := by omega
  have hneq2 : w5.heap.size + 1 ≠ W.heap.size := by omega
  have hz : w.heap.size ≤ w5.heap.size := hE.out.size
  go_region
  · clear q0 q1 q2 q3 q4 q5 q6 q7 hneq hneq2
    obtain ⟨w6, hw6⟩ : ∃ w6, w6 = ((w5.alloc (.cells #[.bool Y_1, .slice Y_2 Y_3 Y_4, .bool Y_5, .slice Y_6 Y_7 Y_8] 26)).alloc (.cells #[.bool X_1, .slice X_2 X_3 X_4, .bool X_5, .slice X_6 X_7 X_8] 26)).drew := ⟨_, rfl⟩
    rw [← hw6]
    have hx : Ext w5 w6 := by rw [hw6]; exact (((Ext.refl w5).al _).al _).dr
    have za : w6.heap[w5.heap.size]? = some (.cells #[.bool Y_1, .slice Y_2 Y_3 Y_4, .bool Y_5, .slice Y_6 Y_7 Y_8] 26 (0, 0)) := by rw [hw6]; exact (heap_alloc_old _ _ (by simp)).trans (heap_alloc_new _ _)
    have zb : w6.heap[w5.heap.size + 1]? = some (.cells #[.bool X_1, .slice X_2 X_3 X_4, .bool X_5, .slice X_6 X_7 X_8] 26 (0, 0)) := by rw [hw6]; exact heap_at _ _ _ (by simp)
    have h56 : w5.heap.size + 2 ≤ w6.heap.size := by rw [hw6]; show _ ≤ (World.heap (World.alloc _ _)).size; simp
    clear hw6
    replace hE := mkHid (hE.out.trans hx)
    replace z0 := mkHid (hx.blk z0.out)
    replace z1 := mkHid (hx.blk z1.out)
    replace fA := mkHid (fA.out.ext hx)
    replace fB := mkHid (fB.out.ext hx)
    replace fC := mkHid (fC.out.ext hx)
    replace fD := mkHid (fD.out.ext hx)
    replace gU := mkHid (gU.out.ext hx)
    replace gV := mkHid (gV.out.ext hx)
    have zu := mkHid za
    have zv := mkHid zb
    clear za zb hx
    go_wp2_with fail
    have m0 : ∀ W, Ext w6 W → W.cell? ⟨w.heap.size, 0, none⟩ = some (.bool A1) := fun W e => by simp [World.cell?, e.blk z0.out]
    have m1 : ∀ W, Ext w6 W → W.cell? ⟨w.heap.size, 1, none⟩ = some (.slice A2 A3 A4) := fun W e => by simp [World.cell?, e.blk z0.out]
    have m2 : ∀ W, Ext w6 W → W.cell? ⟨w.heap.size, 2, none⟩ = some (.bool A5) := fun W e => by simp [World.cell?, e.blk z0.out]
    have m3 : ∀ W, Ext w6 W → W.cell? ⟨w.heap.size, 3, none⟩ = some (.slice A6 A7 A8) := fun W e => by simp [World.cell?, e.blk z0.out]
    have m4 : ∀ W, Ext w6 W → W.cell? ⟨w.heap.size, 4, none⟩ = some (.bool B1) := fun W e => by simp [World.cell?, e.blk z0.out]
    have m5 : ∀ W, Ext w6 W → W.cell? ⟨w.heap.size, 5, none⟩ = some (.slice B2 B3 B4) := fun W e => by simp [World.cell?, e.blk z0.out]
    have m6 : ∀ W, Ext w6 W → W.cell? ⟨w.heap.size, 6, none⟩ = some (.bool B5) := fun W e => by simp [World.cell?, e.blk z0.out]
    have m7 : ∀ W, Ext w6 W → W.cell? ⟨w.heap.size, 7, none⟩ = some (.slice B6 B7 B8) := fun W e => by simp [World.cell?, e.blk z0.out]
    have m8 : ∀ W, Ext w6 W → W.cell? ⟨w.heap.size, 8, none⟩ = some (.bool C1) := fun W e => by simp [World.cell?, e.blk z0.out]
    have m9 : ∀ W, Ext w6 W → W.cell? ⟨w.heap.size, 9, none⟩ = some (.slice C2 C3 C4) := fun W e => by simp [World.cell?, e.blk z0.out]
    have m10 : ∀ W, Ext w6 W → W.cell? ⟨w.heap.size, 10, none⟩ = some (.bool C5) := fun W e => by simp [World.cell?, e.blk z0.out]
    have m11 : ∀ W, Ext w6 W → W.cell? ⟨w.heap.size, 11, none⟩ = some (.slice C6 C7 C8) := fun W e => by simp [World.cell?, e.blk z0.out]
    have m12 : ∀ W, Ext w6 W → W.cell? ⟨w.heap.size, 12, none⟩ = some (.bool D1) := fun W e => by simp [World.cell?, e.blk z0.out]
    have m13 : ∀ W, Ext w6 W → W.cell? ⟨w.heap.size, 13, none⟩ = some (.slice D2 D3 D4) := fun W e => by simp [World.cell?, e.blk z0.out]
    have m14 : ∀ W, Ext w6 W → W.cell? ⟨w.heap.size, 14, none⟩ = some (.bool D5) := fun W e => by simp [World.cell?, e.blk z0.out]
    have m15 : ∀ W, Ext w6 W → W.cell? ⟨w.heap.size, 15, none⟩ = some (.slice D6 D7 D8) := fun W e => by simp [World.cell?, e.blk z0.out]
    have u0 : ∀ W', Ext w6 W' → W'.cell? ⟨w5.heap.size, 0, none⟩ = some (.bool Y_1) := fun W e => by simp [World.cell?, e.blk zu.out]
    have u1 : ∀ W', Ext w6 W' → W'.cell? ⟨w5.heap.size, 1, none⟩ = some (.slice Y_2 Y_3 Y_4) := fun W e => by simp [World.cell?, e.blk zu.out]
    have u2 : ∀ W', Ext w6 W' → W'.cell? ⟨w5.heap.size, 2, none⟩ = some (.bool Y_5) := fun W e => by simp [World.cell?, e.blk zu.out]
    have u3 : ∀ W', Ext w6 W' → W'.cell? ⟨w5.heap.size, 3, none⟩ = some (.slice Y_6 Y_7 Y_8) := fun W e => by simp [World.cell?, e.blk zu.out]
    have v0 : ∀ W', Ext w6 W' → W'.cell? ⟨w5.heap.size + 1, 0, none⟩ = some (.bool X_1) := fun W e => by simp [World.cell?, e.blk zv.out]
    have v1 : ∀ W', Ext w6 W' → W'.cell? ⟨w5.heap.size + 1, 1, none⟩ = some (.slice X_2 X_3 X_4) := fun W e => by simp [World.cell?, e.blk zv.out]
    have v2 : ∀ W', Ext w6 W' → W'.cell? ⟨w5.heap.size + 1, 2, none⟩ = some (.bool X_5) := fun W e => by simp [World.cell?, e.blk zv.out]
    have v3 : ∀ W', Ext w6 W' → W'.cell? ⟨w5.heap.size + 1, 3, none⟩ = some (.slice X_6 X_7 X_8) := fun W e => by simp [World.cell?, e.blk zv.out]
    have kA := mkHid (fun W h h' => times_f (.agg #[.bool Y_1, .slice Y_2 Y_3 Y_4, .bool Y_5, .slice Y_6 Y_7 Y_8]) (.agg #[.bool A1, .slice A2 A3 A4, .bool A5, .slice A6 A7 A8]) U a W (Nat.le_trans bu.out (by decide)) (Nat.le_trans nA.out (by decide)) h h')
    have kB := mkHid (fun W h h' => times_f (.agg #[.bool Y_1, .slice Y_2 Y_3 Y_4, .bool Y_5, .slice Y_6 Y_7 Y_8]) (.agg #[.bool B1, .slice B2 B3 B4, .bool B5, .slice B6 B7 B8]) U b W (Nat.le_trans bu.out (by decide)) (Nat.le_trans nB.out (by decide)) h h')
    have kC := mkHid (fun W h h' => times_f (.agg #[.bool Y_1, .slice Y_2 Y_3 Y_4, .bool Y_5, .slice Y_6 Y_7 Y_8]) (.agg #[.bool C1, .slice C2 C3 C4, .bool C5, .slice C6 C7 C8]) U c W (Nat.le_trans bu.out (by decide)) (Nat.le_trans nC.out (by decide)) h h')
    have kD := mkHid (fun W h h' => times_f (.agg #[.bool Y_1, .slice Y_2 Y_3 Y_4, .bool Y_5, .slice Y_6 Y_7 Y_8]) (.agg #[.bool D1, .slice D2 D3 D4, .bool D5, .slice D6 D7 D8]) U d W (Nat.le_trans bu.out (by decide)) (Nat.le_trans nD.out (by decide)) h h')
    have mA := nf_mul_le U a
    have mB := nf_mul_le U b
    have mC := nf_mul_le U c
    have mD := nf_mul_le U d
    have nA' := nf_sub_le (U * a) V
    have nD' := nf_sub_le (U * d) V
    have bu' := bu.out
    have bv' := bv.out
    have nA'' := nA.out
    have nB'' := nB.out
    have nC'' := nC.out
    have nD'' := nD.out
    have qA : nf (U * a - V) ≤ 268435456 := by omega
    have qB : nf (U * b) ≤ 268435456 := by omega
    have qC : nf (U * c) ≤ 268435456 := by omega
    have qD : nf (U * d - V) ≤ 268435456 := by omega
    have sA := mkHid (fun v W h h' => minus_f v (.agg #[.bool X_1, .slice X_2 X_3 X_4, .bool X_5, .slice X_6 X_7 X_8]) (U * a) V W (by omega) (by omega) h h')
    have sD := mkHid (fun v W h h' => minus_f v (.agg #[.bool X_1, .slice X_2 X_3 X_4, .bool X_5, .slice X_6 X_7 X_8]) (U * d) V W (by omega) (by omega) h h')
    replace qA := mkHid qA
    replace qB := mkHid qB
    replace qC := mkHid qC
    replace qD := mkHid qD
    clear mA mB mC mD nA' nD' bu' bv' nA'' nB'' nC'' nD''
    apply region_fresh [.val _, .val _, .val _, .pred (fun W v => FracR W v (U * a)), .val _, .pred (fun W v => FracR W v (U * a - V)), .val _, .val _, .val _, .pred (fun W v => FracR W v (U * b)), .val _, .val _, .val _, .pred (fun W v => FracR W v (U * c)), .val _, .val _, .val _, .pred (fun W v => FracR W v (U * d)), .val _, .pred (fun W v => FracR W v (U * d - V)), .pred (fun W v => MatR W v (U * a - V) (U * b) (U * c) (U * d - V)), .fresh (VarAt w6.heap.size #[.bool false, .slice none 0 0, .bool false, .slice none 0 0, .bool false, .slice none 0 0, .bool false, .slice none 0 0, .bool false, .slice none 0 0, .bool false, .slice none 0 0, .bool false, .slice none 0 0, .bool false, .slice none 0 0] 28)] (by kernel_rfl) (Fresh.stable_vals _ (Fresh.stable_vals _ (Fresh.stable_vals _ (fst_fracR _ (Fresh.stable_vals _ (fst_fracR _ (Fresh.stable_vals _ (Fresh.stable_vals _ (Fresh.stable_vals _ (fst_fracR _ (Fresh.stable_vals _ (Fresh.stable_vals _ (Fresh.stable_vals _ (fst_fracR _ (Fresh.stable_vals _ (Fresh.stable_vals _ (Fresh.stable_vals _ (fst_fracR _ (Fresh.stable_vals _ (fst_fracR _ (fst_matR _ _ _ _ (fst_var _ _ _ trivial))))))))))))))))))))))
    refine ⟨fun W hW _ => by go_simp; exact ⟨Ext.refl _, rfl⟩, ?_⟩
    refine ⟨fun W hW _ => by go_simp; exact ⟨Ext.refl _, rfl⟩, ?_⟩
    refine ⟨fun W hW _ => by go_simp; exact ⟨Ext.refl _, rfl⟩, ?_⟩
    refine ⟨fun W hW hF => ?b3, fun x3 => ?_⟩
    case b3 =>
      clear hF
      go_simp
      refine (kA.out W (gU.out.ext hW) (fA.out.ext hW)).mono ?_
      rintro e w' ⟨v, rfl, e1, e2⟩
      exact ⟨v, rfl, e1, e2.r⟩
    refine ⟨fun W hW _ => by go_simp; exact ⟨Ext.refl _, rfl⟩, ?_⟩
    refine ⟨fun W hW hF => ?b5, fun x5 => ?_⟩
    case b5 =>
      have dd : FracR W x3 (U * a) := hF.1 (by kernel_rfl)
      replace dd := mkHid dd
      clear hF
      go_simp
      refine (sA.out _ W dd.out (gV.out.ext hW)).mono ?_
      rintro e w' ⟨v, rfl, e1, e2⟩
      exact ⟨v, rfl, e1, e2.r⟩
    refine ⟨fun W hW _ => by go_simp; exact ⟨Ext.refl _, rfl⟩, ?_⟩
    refine ⟨fun W hW _ => by go_simp; exact ⟨Ext.refl _, rfl⟩, ?_⟩
    refine ⟨fun W hW _ => by go_simp; exact ⟨Ext.refl _, rfl⟩, ?_⟩
    refine ⟨fun W hW hF => ?b9, fun x9 => ?_⟩
    case b9 =>
      clear hF
      go_simp
      refine (kB.out W (gU.out.ext hW) (fB.out.ext hW)).mono ?_
      rintro e w' ⟨v, rfl, e1, e2⟩
      exact ⟨v, rfl, e1, e2.r⟩
    refine ⟨fun W hW _ => by go_simp; exact ⟨Ext.refl _, rfl⟩, ?_⟩
    refine ⟨fun W hW _ => by go_simp; exact ⟨Ext.refl _, rfl⟩, ?_⟩
    refine ⟨fun W hW _ => by go_simp; exact ⟨Ext.refl _, rfl⟩, ?_⟩
    refine ⟨fun W hW hF => ?b13, fun x13 => ?_⟩
    case b13 =>
      clear hF
      go_simp
      refine (kC.out W (gU.out.ext hW) (fC.out.ext hW)).mono ?_
      rintro e w' ⟨v, rfl, e1, e2⟩
      exact ⟨v, rfl, e1, e2.r⟩
    refine ⟨fun W hW _ => by go_simp; exact ⟨Ext.refl _, rfl⟩, ?_⟩
    refine ⟨fun W hW _ => by go_simp; exact ⟨Ext.refl _, rfl⟩, ?_⟩
    refine ⟨fun W hW _ => by go_simp; exact ⟨Ext.refl _, rfl⟩, ?_⟩
    refine ⟨fun W hW hF => ?b17, fun x17 => ?_⟩
    case b17 =>
      clear hF
      go_simp
      refine (kD.out W (gU.out.ext hW) (fD.out.ext hW)).mono ?_
      rintro e w' ⟨v, rfl, e1, e2⟩
      exact ⟨v, rfl, e1, e2.r⟩
    refine ⟨fun W hW _ => by go_simp; exact ⟨Ext.refl _, rfl⟩, ?_⟩
    refine ⟨fun W hW hF => ?b19, fun x19 => ?_⟩
    case b19 =>
      have dd : FracR W x17 (U * d) := hF.1 (by kernel_rfl)
      replace dd := mkHid dd
      clear hF
      go_simp
      refine (sD.out _ W dd.out (gV.out.ext hW)).mono ?_
      rintro e w' ⟨v, rfl, e1, e2⟩
      exact ⟨v, rfl, e1, e2.r⟩
    refine ⟨fun W hW hF => ?b20, fun x20 => ?_⟩
    case b20 =>
      have t19 : FracR W x19 (U * d - V) := hF.1 (by kernel_rfl)
      have t13 : FracR W x13 (U * c) := hF.2.2.1 (by kernel_rfl)
      have t9 : FracR W x9 (U * b) := hF.2.2.2.1 (by kernel_rfl)
      have t5 : FracR W x5 (U * a - V) := hF.2.2.2.2.1 (by kernel_rfl)
      obtain ⟨P1, P2, P3, P4, P5, P6, P7, P8, rfl⟩ := t5.shape
      obtain ⟨Q1, Q2, Q3, Q4, Q5, Q6, Q7, Q8, rfl⟩ := t9.shape
      obtain ⟨S1, S2, S3, S4, S5, S6, S7, S8, rfl⟩ := t13.shape
      obtain ⟨T1, T2, T3, T4, T5, T6, T7, T8, rfl⟩ := t19.shape
      have mr : MatR W (.agg #[.bool P1, .slice P2 P3 P4, .bool P5, .slice P6 P7 P8, .bool Q1, .slice Q2 Q3 Q4, .bool Q5, .slice Q6 Q7 Q8, .bool S1, .slice S2 S3 S4, .bool S5, .slice S6 S7 S8, .bool T1, .slice T2 T3 T4, .bool T5, .slice T6 T7 T8]) (U * a - V) (U * b) (U * c) (U * d - V) := ⟨_, _, _, _, _, _, _, _, _, _, _, _, _, _, _, _, _, _, _, _, _, _, _, _, _, _, _, _, _, _, _, _, rfl, t5, t9, t13, t19⟩
      replace mr := mkHid mr
      clear hF t5 t9 t13 t19
      go_simp
      exact ⟨Ext.refl _, mr.out⟩
    refine ⟨fun W' hW' _ => ?b21, fun xv => fun W' hW' hF hAp => ?fin3⟩
    case b21 =>
      have hnv := new_var (b := w6.heap.size) (cs := #[.bool false, .slice none 0 0, .bool false, .slice none 0 0, .bool false, .slice none 0 0, .bool false, .slice none 0 0, .bool false, .slice none 0 0, .bool false, .slice none 0 0, .bool false, .slice none 0 0, .bool false, .slice none 0 0]) (T := 28) W' hW'.size
      replace hnv := mkHid hnv
      go_simp
      exact ⟨hnv.out.1, hnv.out.2.1⟩
    case fin3 =>
    obtain ⟨f21, f20, -⟩ := hF
    obtain ⟨⟨gp, rfl, hgpb, hgp⟩, _⟩ := f21 rfl
    have mr : MatR W' x20 (U * a - V) (U * b) (U * c) (U * d - V) := f20 rfl
    clear f21 f20 hAp
    clear m0 m1 m2 m3 m4 m5 m6 m7 m8 m9 m10 m11 m12 m13 m14 m15 u0 u1 u2 u3 v0 v1 v2 v3
    obtain ⟨P1, P2, P3, P4, P5, P6, P7, P8, Q1, Q2, Q3, Q4, Q5, Q6, Q7, Q8, S1, S2, S3, S4, S5, S6, S7, S8, T1, T2, T3, T4, T5, T6, T7, T8, rfl, t5, t9, t13, t19⟩ := mr
    obtain ⟨w7, hw7⟩ : ∃ w7, w7 = W'.setRow gp #[.bool P1, .slice P2 P3 P4, .bool P5, .slice P6 P7 P8, .bool Q1, .slice Q2 Q3 Q4, .bool Q5, .slice Q6 Q7 Q8, .bool S1, .slice S2 S3 S4, .bool S5, .slice S6 S7 S8, .bool T1, .slice T2 T3 T4, .bool T5, .slice T6 T7 T8] := ⟨_, rfl⟩
    have fl : ∀ v q, FracR W' v q → FracR w7 v q := fun v q h => by
      rw [hw7]
      exact h.flat hgp (by simp [flatV]) _
    have z17 : w7.heap[w.heap.size + 1]? = some (.cells #[.bool false, .slice none 0 0, .bool false, .slice none 0 0, .bool false, .slice none 0 0, .bool false, .slice none 0 0, .bool false, .slice none 0 0, .bool false, .slice none 0 0, .bool false, .slice none 0 0, .bool false, .slice none 0 0] 28 (0, 0)) := by
      rw [hw7, setRow_other _ _ _ _ (by omega)]
      exact hW'.blk z1.out
    have hz6 : w.heap.size ≤ w6.heap.size := hE.out.size
    have hE7 : Ext w w7 := by
      rw [hw7]
      exact (hE.out.trans hW').row (by omega) _
    have zp : w7.heap[gp]? = some (.cells #[.bool P1, .slice P2 P3 P4, .bool P5, .slice P6 P7 P8, .bool Q1, .slice Q2 Q3 Q4, .bool Q5, .slice Q6 Q7 Q8, .bool S1, .slice S2 S3 S4, .bool S5, .slice S6 S7 S8, .bool T1, .slice T2 T3 T4, .bool T5, .slice T6 T7 T8] 28 (0, 0)) := by rw [hw7]; exact setRow_heap _ _ _ _ _ _ hgp
    replace t5 := mkHid (fl _ _ t5)
    replace t9 := mkHid (fl _ _ t9)
    replace t13 := mkHid (fl _ _ t13)
    replace t19 := mkHid (fl _ _ t19)
    have h67 : w6.heap.size < w7.heap.size := by
      have := (Array.getElem?_eq_some_iff.1 zp).1
      omega
    replace hE := mkHid hE7
    replace z1 := mkHid z17
    replace zp := mkHid zp
    replace hgp := mkHid hgp
    replace hw7 := mkHid hw7
    clear fl z17 hE7 hW' fA fB fC fD gU gV z0 zu zv kA kB kC kD sA sD

    have han := mkHid (fun W g h => answer_f g 4 [U * a - V, U * b, U * c, U * d - V] W (by simp) (fun y hy => by simp at hy; have := qA.out; have := qB.out; have := qC.out; have := qD.out; rcases hy with rfl | rfl | rfl | rfl <;> omega) h)
    have kP := mkHid (fun W h => copy_f (.agg #[.bool P1, .slice P2 P3 P4, .bool P5, .slice P6 P7 P8]) (U * a - V) W qA.out h)
    have kQ := mkHid (fun W h => copy_f (.agg #[.bool Q1, .slice Q2 Q3 Q4, .bool Q5, .slice Q6 Q7 Q8]) (U * b) W qB.out h)
    have kS := mkHid (fun W h => copy_f (.agg #[.bool S1, .slice S2 S3 S4, .bool S5, .slice S6 S7 S8]) (U * c) W qC.out h)
    have kT := mkHid (fun W h => copy_f (.agg #[.bool T1, .slice T2 T3 T4, .bool T5, .slice T6 T7 T8]) (U * d - V) W qD.out h)
    obtain ⟨C, hC⟩ : ∃ C : Int, C = if ([U * a - V, U * b, U * c, U * d - V].any fun x => decide (2048 < nf x)) = true then 4 else 0 := ⟨_, rfl⟩
    rw [← hC, show [U * a - V, U * b, U * c, U * d - V].length = 4 from rfl] at han
    generalize U * a - V = RP at *
    generalize U * b = RQ at *
    generalize U * c = RS at *
    generalize U * d - V = RT at *
    have hFE : C = fineE RP RQ RS RT := by
      rw [hC]
      unfold fineE fine4
      by_cases u1 : nf RP ≤ 2048 <;> by_cases u2 : nf RQ ≤ 2048 <;> by_cases u3 : nf RS ≤ 2048 <;> by_cases u4 : nf RT ≤ 2048 <;> simp [u1, u2, u3, u4] <;> omega
    have hz1 : w.heap.size + 1 < w7.heap.size := (Array.getElem?_eq_some_iff.1 z1.out).1
    have e0 : ∀ W', Ext w7 W' → W'.cell? ⟨gp, 0, none⟩ = some (.bool P1) := fun W e => by simp [World.cell?, e.blk zp.out]
    have e1 : ∀ W', Ext w7 W' → W'.cell? ⟨gp, 1, none⟩ = some (.slice P2 P3 P4) := fun W e => by simp [World.cell?, e.blk zp.out]
    have e2 : ∀ W', Ext w7 W' → W'.cell? ⟨gp, 2, none⟩ = some (.bool P5) := fun W e => by simp [World.cell?, e.blk zp.out]
    have e3 : ∀ W', Ext w7 W' → W'.cell? ⟨gp, 3, none⟩ = some (.slice P6 P7 P8) := fun W e => by simp [World.cell?, e.blk zp.out]
    have e4 : ∀ W', Ext w7 W' → W'.cell? ⟨gp, 4, none⟩ = some (.bool Q1) := fun W e => by simp [World.cell?, e.blk zp.out]
    have e5 : ∀ W', Ext w7 W' → W'.cell? ⟨gp, 5, none⟩ = some (.slice Q2 Q3 Q4) := fun W e => by simp [World.cell?, e.blk zp.out]
    have e6 : ∀ W', Ext w7 W' → W'.cell? ⟨gp, 6, none⟩ = some (.bool Q5) := fun W e => by simp [World.cell?, e.blk zp.out]
    have e7 : ∀ W', Ext w7 W' → W'.cell? ⟨gp, 7, none⟩ = some (.slice Q6 Q7 Q8) := fun W e => by simp [World.cell?, e.blk zp.out]
    have e8 : ∀ W', Ext w7 W' → W'.cell? ⟨gp, 8, none⟩ = some (.bool S1) := fun W e => by simp [World.cell?, e.blk zp.out]
    have e9 : ∀ W', Ext w7 W' → W'.cell? ⟨gp, 9, none⟩ = some (.slice S2 S3 S4) := fun W e => by simp [World.cell?, e.blk zp.out]
    have e10 : ∀ W', Ext w7 W' → W'.cell? ⟨gp, 10, none⟩ = some (.bool S5) := fun W e => by simp [World.cell?, e.blk zp.out]
    have e11 : ∀ W', Ext w7 W' → W'.cell? ⟨gp, 11, none⟩ = some (.slice S6 S7 S8) := fun W e => by simp [World.cell?, e.blk zp.out]
    have e12 : ∀ W', Ext w7 W' → W'.cell? ⟨gp, 12, none⟩ = some (.bool T1) := fun W e => by simp [World.cell?, e.blk zp.out]
    have e13 : ∀ W', Ext w7 W' → W'.cell? ⟨gp, 13, none⟩ = some (.slice T2 T3 T4) := fun W e => by simp [World.cell?, e.blk zp.out]
    have e14 : ∀ W', Ext w7 W' → W'.cell? ⟨gp, 14, none⟩ = some (.bool T5) := fun W e => by simp [World.cell?, e.blk zp.out]
    have e15 : ∀ W', Ext w7 W' → W'.cell? ⟨gp, 15, none⟩ = some (.slice T6 T7 T8) := fun W e => by simp [World.cell?, e.blk zp.out]
    have i0 := e0 w7 (Ext.refl _)
    have i1 := e1 w7 (Ext.refl _)
    have i2 := e2 w7 (Ext.refl _)
    have i3 := e3 w7 (Ext.refl _)
    have i4 := e4 w7 (Ext.refl _)
    have i5 := e5 w7 (Ext.refl _)
    have i6 := e6 w7 (Ext.refl _)
    have i7 := e7 w7 (Ext.refl _)
    have i8 := e8 w7 (Ext.refl _)
    have i9 := e9 w7 (Ext.refl _)
    have i10 := e10 w7 (Ext.refl _)
    have i11 := e11 w7 (Ext.refl _)
    have i12 := e12 w7 (Ext.refl _)
    have i13 := e13 w7 (Ext.refl _)
    have i14 := e14 w7 (Ext.refl _)
    have i15 := e15 w7 (Ext.refl _)
    replace hC := mkHid hC
    replace hFE := mkHid hFE
    clear zp
    go_simp
    go_wp2_with (refine wpList_store_row rfl 28 (.tmp 10) (.tmp 64) rfl gp #[.bool P1, .slice P2 P3 P4, .bool P5, .slice P6 P7 P8, .bool Q1, .slice Q2 Q3 Q4, .bool Q5, .slice Q6 Q7 Q8, .bool S1, .slice S2 S3 S4, .bool S5, .slice S6 S7 S8, .bool T1, .slice T2 T3 T4, .bool T5, .slice T6 T7 T8] rfl rfl 28 _ hgp.out (by kernel_rfl) rfl (by kernel_rfl) ?_; rw [← hw7.out])
    clear hgp hw7
    clear i0 i1 i2 i3 i4 i5 i6 i7 i8 i9 i10 i11 i12 i13 i14 i15
    have hEc := (Ext.refl w7).al (.cells #[.bool P1, .slice P2 P3 P4, .bool P5, .slice P6 P7 P8, .bool Q1, .slice Q2 Q3 Q4, .bool Q5, .slice Q6 Q7 Q8, .bool S1, .slice S2 S3 S4, .bool S5, .slice S6 S7 S8, .bool T1, .slice T2 T3 T4, .bool T5, .slice T6 T7 T8] 26)
    have hl := lr_four (heap_alloc_new w7 (.cells #[.bool P1, .slice P2 P3 P4, .bool P5, .slice P6 P7 P8, .bool Q1, .slice Q2 Q3 Q4, .bool Q5, .slice Q6 Q7 Q8, .bool S1, .slice S2 S3 S4, .bool S5, .slice S6 S7 S8, .bool T1, .slice T2 T3 T4, .bool T5, .slice T6 T7 T8] 26)) (t5.out.ext hEc) (t9.out.ext hEc) (t13.out.ext hEc) (t19.out.ext hEc)
    refine (han.out _ _ hl).mono ?_
    rintro e w8 ⟨rfl, hE8⟩
    clear hl han
    have h78 := hEc.trans hE8
    replace hE := mkHid (hE.out.trans h78)
    replace z1 := mkHid (h78.blk z1.out)
    replace t5 := mkHid (t5.out.ext h78)
    replace t9 := mkHid (t9.out.ext h78)
    replace t13 := mkHid (t13.out.ext h78)
    replace t19 := mkHid (t19.out.ext h78)
    replace e0 := fun W' (e : Ext w8 W') => e0 W' (h78.trans e)
    replace e1 := fun W' (e : Ext w8 W') => e1 W' (h78.trans e)
    replace e2 := fun W' (e : Ext w8 W') => e2 W' (h78.trans e)
    replace e3 := fun W' (e : Ext w8 W') => e3 W' (h78.trans e)
    replace e4 := fun W' (e : Ext w8 W') => e4 W' (h78.trans e)
    replace e5 := fun W' (e : Ext w8 W') => e5 W' (h78.trans e)
    replace e6 := fun W' (e : Ext w8 W') => e6 W' (h78.trans e)
    replace e7 := fun W' (e : Ext w8 W') => e7 W' (h78.trans e)
    replace e8 := fun W' (e : Ext w8 W') => e8 W' (h78.trans e)
    replace e9 := fun W' (e : Ext w8 W') => e9 W' (h78.trans e)
    replace e10 := fun W' (e : Ext w8 W') => e10 W' (h78.trans e)
    replace e11 := fun W' (e : Ext w8 W') => e11 W' (h78.trans e)
    replace e12 := fun W' (e : Ext w8 W') => e12 W' (h78.trans e)
    replace e13 := fun W' (e : Ext w8 W') => e13 W' (h78.trans e)
    replace e14 := fun W' (e : Ext w8 W') => e14 W' (h78.trans e)
    replace e15 := fun W' (e : Ext w8 W') => e15 W' (h78.trans e)
    clear hEc hE8 h78
    by_cases hf : fine4 RP RQ RS RT = true
    · have hC0 : C = 0 := by rw [hFE.out]; unfold fineE; rw [hf]; rfl
      have hf2 := hf
      unfold fine4 at hf2
      simp only [Bool.and_eq_true, decide_eq_true_eq] at hf2
      obtain ⟨⟨⟨b1, b2⟩, b3⟩, b4⟩ := hf2
      replace b1 := mkHid b1
      replace b2 := mkHid b2
      replace b3 := mkHid b3
      replace b4 := mkHid b4
      replace hf := mkHid hf
      subst hC0
      go_wp2_with fail
      apply region_ext [.val _, .val _, .pred (fun W v => FracR W v RP), .val _, .val _, .pred (fun W v => FracR W v RQ), .val _, .val _, .pred (fun W v => FracR W v RS), .val _, .val _, .pred (fun W v => FracR W v RT)] (by kernel_rfl) (stable_vals _ (stable_vals _ (st_fracR _ (stable_vals _ (stable_vals _ (st_fracR _ (stable_vals _ (stable_vals _ (st_fracR _ (stable_vals _ (stable_vals _ (st_fracR _ trivial))))))))))))
      iterate 2 (refine ⟨fun W hW _ => by go_simp; exact ⟨Ext.refl _, rfl⟩, ?_⟩)
      refine ⟨fun W hW _ => ?c0, fun y0 => ?_⟩
      case c0 =>
        go_simp
        refine (kP.out W (t5.out.ext hW)).mono ?_
        rintro e w' ⟨v, rfl, e1, e2⟩
        exact ⟨v, rfl, e1, e2.r⟩
      iterate 2 (refine ⟨fun W hW _ => by go_simp; exact ⟨Ext.refl _, rfl⟩, ?_⟩)
      refine ⟨fun W hW _ => ?c1, fun y1 => ?_⟩
      case c1 =>
        go_simp
        refine (kQ.out W (t9.out.ext hW)).mono ?_
        rintro e w' ⟨v, rfl, e1, e2⟩
        exact ⟨v, rfl, e1, e2.r⟩
      iterate 2 (refine ⟨fun W hW _ => by go_simp; exact ⟨Ext.refl _, rfl⟩, ?_⟩)
      refine ⟨fun W hW _ => ?c2, fun y2 => ?_⟩
      case c2 =>
        go_simp
        refine (kS.out W (t13.out.ext hW)).mono ?_
        rintro e w' ⟨v, rfl, e1, e2⟩
        exact ⟨v, rfl, e1, e2.r⟩
      iterate 2 (refine ⟨fun W hW _ => by go_simp; exact ⟨Ext.refl _, rfl⟩, ?_⟩)
      refine ⟨fun W hW _ => ?c3, fun y3 => fun W hW hF => ?last⟩
      case c3 =>
        go_simp
        refine (kT.out W (t19.out.ext hW)).mono ?_
        rintro e w' ⟨v, rfl, e1, e2⟩
        exact ⟨v, rfl, e1, e2.r⟩
      case last =>
        have f3 : FracR W y3 RT := hF.1 rfl
        have f2 : FracR W y2 RS := hF.2.1 rfl
        have f1 : FracR W y1 RQ := hF.2.2.1 rfl
        have f0 : FracR W y0 RP := hF.2.2.2.1 rfl
        obtain ⟨E1, E2, E3, E4, E5, E6, E7, E8, rfl⟩ := f0.shape
        obtain ⟨G1, G2, G3, G4, G5, G6, G7, G8, rfl⟩ := f1.shape
        obtain ⟨H1, H2, H3, H4, H5, H6, H7, H8, rfl⟩ := f2.shape
        obtain ⟨I1, I2, I3, I4, I5, I6, I7, I8, rfl⟩ := f3.shape
        clear hF e0 e1 e2 e3 e4 e5 e6 e7 e8 e9 e10 e11 e12 e13 e14 e15
        have z1' := hW.blk z1.out
        have FE := (hE.out.trans hW).row (show w.heap.size ≤ w.heap.size + 1 by omega) #[.bool E1, .slice E2 E3 E4, .bool E5, .slice E6 E7 E8, .bool G1, .slice G2 G3 G4, .bool G5, .slice G6 G7 G8, .bool H1, .slice H2 H3 H4, .bool H5, .slice H6 H7 H8, .bool I1, .slice I2 I3 I4, .bool I5, .slice I6 I7 I8]
        have g0 := (f0.flat z1' (by simp [flatV]) #[.bool E1, .slice E2 E3 E4, .bool E5, .slice E6 E7 E8, .bool G1, .slice G2 G3 G4, .bool G5, .slice G6 G7 G8, .bool H1, .slice H2 H3 H4, .bool H5, .slice H6 H7 H8, .bool I1, .slice I2 I3 I4, .bool I5, .slice I6 I7 I8]).any (Nat.le_trans b1.out (by decide))
        rw [if_pos b1.out] at g0
        have j0 : fineO RP RQ RS RT RP = some RP := by unfold fineO; rw [hf.out]; rfl
        rw [← j0] at g0
        have g1 := (f1.flat z1' (by simp [flatV]) #[.bool E1, .slice E2 E3 E4, .bool E5, .slice E6 E7 E8, .bool G1, .slice G2 G3 G4, .bool G5, .slice G6 G7 G8, .bool H1, .slice H2 H3 H4, .bool H5, .slice H6 H7 H8, .bool I1, .slice I2 I3 I4, .bool I5, .slice I6 I7 I8]).any (Nat.le_trans b2.out (by decide))
        rw [if_pos b2.out] at g1
        have j1 : fineO RP RQ RS RT RQ = some RQ := by unfold fineO; rw [hf.out]; rfl
        rw [← j1] at g1
        have g2 := (f2.flat z1' (by simp [flatV]) #[.bool E1, .slice E2 E3 E4, .bool E5, .slice E6 E7 E8, .bool G1, .slice G2 G3 G4, .bool G5, .slice G6 G7 G8, .bool H1, .slice H2 H3 H4, .bool H5, .slice H6 H7 H8, .bool I1, .slice I2 I3 I4, .bool I5, .slice I6 I7 I8]).any (Nat.le_trans b3.out (by decide))
        rw [if_pos b3.out] at g2
        have j2 : fineO RP RQ RS RT RS = some RS := by unfold fineO; rw [hf.out]; rfl
        rw [← j2] at g2
        have g3 := (f3.flat z1' (by simp [flatV]) #[.bool E1, .slice E2 E3 E4, .bool E5, .slice E6 E7 E8, .bool G1, .slice G2 G3 G4, .bool G5, .slice G6 G7 G8, .bool H1, .slice H2 H3 H4, .bool H5, .slice H6 H7 H8, .bool I1, .slice I2 I3 I4, .bool I5, .slice I6 I7 I8]).any (Nat.le_trans b4.out (by decide))
        rw [if_pos b4.out] at g3
        have j3 : fineO RP RQ RS RT RT = some RT := by unfold fineO; rw [hf.out]; rfl
        rw [← j3] at g3
        have FR : AnyM (W.setRow (w.heap.size + 1) #[.bool E1, .slice E2 E3 E4, .bool E5, .slice E6 E7 E8, .bool G1, .slice G2 G3 G4, .bool G5, .slice G6 G7 G8, .bool H1, .slice H2 H3 H4, .bool H5, .slice H6 H7 H8, .bool I1, .slice I2 I3 I4, .bool I5, .slice I6 I7 I8]) (.agg #[.bool E1, .slice E2 E3 E4, .bool E5, .slice E6 E7 E8, .bool G1, .slice G2 G3 G4, .bool G5, .slice G6 G7 G8, .bool H1, .slice H2 H3 H4, .bool H5, .slice H6 H7 H8, .bool I1, .slice I2 I3 I4, .bool I5, .slice I6 I7 I8]) (powOA n a b c d) (powOB n a b c d) (powOC n a b c d) (powOD n a b c d) := ⟨_, _, _, _, _, _, _, _, _, _, _, _, _, _, _, _, _, _, _, _, _, _, _, _, _, _, _, _, _, _, _, _, rfl, by rw [hOP.out]; exact g0, by rw [hOQ.out]; exact g1, by rw [hOS.out]; exact g2, by rw [hOT.out]; exact g3⟩
        replace z1' := mkHid z1'
        replace FE := mkHid FE
        replace FR := mkHid FR
        clear f0 f1 f2 f3 g0 g1 g2 g3 j0 j1 j2 j3 hW
        go_simp
        go_wp2_with (refine wpList_store_row rfl 28 (.tmp 4) (.tmp 91) rfl (w.heap.size + 1) #[.bool E1, .slice E2 E3 E4, .bool E5, .slice E6 E7 E8, .bool G1, .slice G2 G3 G4, .bool G5, .slice G6 G7 G8, .bool H1, .slice H2 H3 H4, .bool H5, .slice H6 H7 H8, .bool I1, .slice I2 I3 I4, .bool I5, .slice I6 I7 I8] rfl rfl 28 _ z1'.out (by kernel_rfl) rfl (by kernel_rfl) ?_)
        exact bodyPost_ret (results_row_tmp rfl _ _ (w.heap.size + 1) 28 #[.bool E1, .slice E2 E3 E4, .bool E5, .slice E6 E7 E8, .bool G1, .slice G2 G3 G4, .bool G5, .slice G6 G7 G8, .bool H1, .slice H2 H3 H4, .bool H5, .slice H6 H7 H8, .bool I1, .slice I2 I3 I4, .bool I5, .slice I6 I7 I8] _ _ rfl rfl (setRow_heap _ _ _ _ _ _ z1'.out) Tryz.underlying28 rfl (by kernel_rfl)) rfl ⟨_, by rw [hOE.out, ← hFE.out]; rfl, FE.out, FR.out⟩
    · have hC4 : C = 4 := by rw [hFE.out]; unfold fineE; rw [if_neg hf]
      have jP : fineO RP RQ RS RT RP = none := by unfold fineO; rw [if_neg hf]
      have jQ : fineO RP RQ RS RT RQ = none := by unfold fineO; rw [if_neg hf]
      have jS : fineO RP RQ RS RT RS = none := by unfold fineO; rw [if_neg hf]
      have jT : fineO RP RQ RS RT RT = none := by unfold fineO; rw [if_neg hf]
      subst hC4
      replace hf := mkHid hf
      clear e0 e1 e2 e3 e4 e5 e6 e7 e8 e9 e10 e11 e12 e13 e14 e15
      have FE := (hE.out.row (show w.heap.size ≤ w.heap.size + 1 by omega) #[.bool false, .slice none 0 0, .bool false, .slice none 0 0, .bool false, .slice none 0 0, .bool false, .slice none 0 0, .bool false, .slice none 0 0, .bool false, .slice none 0 0, .bool false, .slice none 0 0, .bool false, .slice none 0 0])
      have FR : AnyM (w8.setRow (w.heap.size + 1) #[.bool false, .slice none 0 0, .bool false, .slice none 0 0, .bool false, .slice none 0 0, .bool false, .slice none 0 0, .bool false, .slice none 0 0, .bool false, .slice none 0 0, .bool false, .slice none 0 0, .bool false, .slice none 0 0]) (.agg #[.bool false, .slice none 0 0, .bool false, .slice none 0 0, .bool false, .slice none 0 0, .bool false, .slice none 0 0, .bool false, .slice none 0 0, .bool false, .slice none 0 0, .bool false, .slice none 0 0, .bool false, .slice none 0 0]) (powOA n a b c d) (powOB n a b c d) (powOC n a b c d) (powOD n a b c d) := by rw [hOP.out, hOQ.out, hOS.out, hOT.out, jP, jQ, jS, jT]; exact anyM_zero _
      clear jP jQ jS jT
      replace FE := mkHid FE
      replace FR := mkHid FR
      go_wp2_with (refine wpList_store_row rfl 28 (.tmp 4) (.tmp 77) rfl (w.heap.size + 1) #[.bool false, .slice none 0 0, .bool false, .slice none 0 0, .bool false, .slice none 0 0, .bool false, .slice none 0 0, .bool false, .slice none 0 0, .bool false, .slice none 0 0, .bool false, .slice none 0 0, .bool false, .slice none 0 0] rfl rfl 28 _ z1.out (by kernel_rfl) rfl (by kernel_rfl) ?_)
      exact bodyPost_ret (results_row_tmp rfl _ _ (w.heap.size + 1) 28 #[.bool false, .slice none 0 0, .bool false, .slice none 0 0, .bool false, .slice none 0 0, .bool false, .slice none 0 0, .bool false, .slice none 0 0, .bool false, .slice none 0 0, .bool false, .slice none 0 0, .bool false, .slice none 0 0] _ _ rfl rfl (setRow_heap _ _ _ _ _ _ z1.out) Tryz.underlying28 rfl (by kernel_rfl)) rfl ⟨_, by rw [hOE.out, ← hFE.out]; rfl, FE.out, FR.out⟩
  · clear q0 q1 q2 q3 q4 q5 q6 q7 hneq hneq2
    obtain ⟨w6, hw6⟩ : ∃ w6, w6 = ((w5.alloc (.cells #[.bool X_1, .slice X_2 X_3 X_4, .bool X_5, .slice X_6 X_7 X_8] 26)).alloc (.cells #[.bool Y_1, .slice Y_2 Y_3 Y_4, .bool Y_5, .slice Y_6 Y_7 Y_8] 26)).drew := ⟨_, rfl⟩
    rw [← hw6]
    have hx : Ext w5 w6 := by rw [hw6]; exact (((Ext.refl w5).al _).al _).dr
    have za : w6.heap[w5.heap.size]? = some (.cells #[.bool X_1, .slice X_2 X_3 X_4, .bool X_5, .slice X_6 X_7 X_8] 26 (0, 0)) := by rw [hw6]; exact (heap_alloc_old _ _ (by simp)).trans (heap_alloc_new _ _)
    have zb : w6.heap[w5.heap.size + 1]? = some (.cells #[.bool Y_1, .slice Y_2 Y_3 Y_4, .bool Y_5, .slice Y_6 Y_7 Y_8] 26 (0, 0)) := by rw [hw6]; exact heap_at _ _ _ (by simp)
    have h56 : w5.heap.size + 2 ≤ w6.heap.size := by rw [hw6]; show _ ≤ (World.heap (World.alloc _ _)).size; simp
    clear hw6
    replace hE := mkHid (hE.out.trans hx)
    replace z0 := mkHid (hx.blk z0.out)
    replace z1 := mkHid (hx.blk z1.out)
    replace fA := mkHid (fA.out.ext hx)
    replace fB := mkHid (fB.out.ext hx)
    replace fC := mkHid (fC.out.ext hx)
    replace fD := mkHid (fD.out.ext hx)
    replace gU := mkHid (gU.out.ext hx)
    replace gV := mkHid (gV.out.ext hx)
    have zu := mkHid zb
    have zv := mkHid za
    clear za zb hx
    go_wp2_with fail
    have m0 : ∀ W, Ext w6 W → W.cell? ⟨w.heap.size, 0, none⟩ = some (.bool A1) := fun W e => by simp [World.cell?, e.blk z0.out]
    have m1 : ∀ W, Ext w6 W → W.cell? ⟨w.heap.size, 1, none⟩ = some (.slice A2 A3 A4) := fun W e => by simp [World.cell?, e.blk z0.out]
    have m2 : ∀ W, Ext w6 W → W.cell? ⟨w.heap.size, 2, none⟩ = some (.bool A5) := fun W e => by simp [World.cell?, e.blk z0.out]
    have m3 : ∀ W, Ext w6 W → W.cell? ⟨w.heap.size, 3, none⟩ = some (.slice A6 A7 A8) := fun W e => by simp [World.cell?, e.blk z0.out]
    have m4 : ∀ W, Ext w6 W → W.cell? ⟨w.heap.size, 4, none⟩ = some (.bool B1) := fun W e => by simp [World.cell?, e.blk z0.out]
    have m5 : ∀ W, Ext w6 W → W.cell? ⟨w.heap.size, 5, none⟩ = some (.slice B2 B3 B4) := fun W e => by simp [World.cell?, e.blk z0.out]
    have m6 : ∀ W, Ext w6 W → W.cell? ⟨w.heap.size, 6, none⟩ = some (.bool B5) := fun W e => by simp [World.cell?, e.blk z0.out]
    have m7 : ∀ W, Ext w6 W → W.cell? ⟨w.heap.size, 7, none⟩ = some (.slice B6 B7 B8) := fun W e => by simp [World.cell?, e.blk z0.out]
    have m8 : ∀ W, Ext w6 W → W.cell? ⟨w.heap.size, 8, none⟩ = some (.bool C1) := fun W e => by simp [World.cell?, e.blk z0.out]
    have m9 : ∀ W, Ext w6 W → W.cell? ⟨w.heap.size, 9, none⟩ = some (.slice C2 C3 C4) := fun W e => by simp [World.cell?, e.blk z0.out]
    have m10 : ∀ W, Ext w6 W → W.cell? ⟨w.heap.size, 10, none⟩ = some (.bool C5) := fun W e => by simp [World.cell?, e.blk z0.out]
    have m11 : ∀ W, Ext w6 W → W.cell? ⟨w.heap.size, 11, none⟩ = some (.slice C6 C7 C8) := fun W e => by simp [World.cell?, e.blk z0.out]
    have m12 : ∀ W, Ext w6 W → W.cell? ⟨w.heap.size, 12, none⟩ = some (.bool D1) := fun W e => by simp [World.cell?, e.blk z0.out]
    have m13 : ∀ W, Ext w6 W → W.cell? ⟨w.heap.size, 13, none⟩ = some (.slice D2 D3 D4) := fun W e => by simp [World.cell?, e.blk z0.out]
    have m14 : ∀ W, Ext w6 W → W.cell? ⟨w.heap.size, 14, none⟩ = some (.bool D5) := fun W e => by simp [World.cell?, e.blk z0.out]
    have m15 : ∀ W, Ext w6 W → W.cell? ⟨w.heap.size, 15, none⟩ = some (.slice D6 D7 D8) := fun W e => by simp [World.cell?, e.blk z0.out]
    have u0 : ∀ W', Ext w6 W' → W'.cell? ⟨w5.heap.size + 1, 0, none⟩ = some (.bool Y_1) := fun W e => by simp [World.cell?, e.blk zu.out]
    have u1 : ∀ W', Ext w6 W' → W'.cell? ⟨w5.heap.size + 1, 1, none⟩ = some (.slice Y_2 Y_3 Y_4) := fun W e => by simp [World.cell?, e.blk zu.out]
    have u2 : ∀ W', Ext w6 W' → W'.cell? ⟨w5.heap.size + 1, 2, none⟩ = some (.bool Y_5) := fun W e => by simp [World.cell?, e.blk zu.out]
    have u3 : ∀ W', Ext w6 W' → W'.cell? ⟨w5.heap.size + 1, 3, none⟩ = some (.slice Y_6 Y_7 Y_8) := fun W e => by simp [World.cell?, e.blk zu.out]
    have v0 : ∀ W', Ext w6 W' → W'.cell? ⟨w5.heap.size, 0, none⟩ = some (.bool X_1) := fun W e => by simp [World.cell?, e.blk zv.out]
    have v1 : ∀ W', Ext w6 W' → W'.cell? ⟨w5.heap.size, 1, none⟩ = some (.slice X_2 X_3 X_4) := fun W e => by simp [World.cell?, e.blk zv.out]
    have v2 : ∀ W', Ext w6 W' → W'.cell? ⟨w5.heap.size, 2, none⟩ = some (.bool X_5) := fun W e => by simp [World.cell?, e.blk zv.out]
    have v3 : ∀ W', Ext w6 W' → W'.cell? ⟨w5.heap.size, 3, none⟩ = some (.slice X_6 X_7 X_8) := fun W e => by simp [World.cell?, e.blk zv.out]
    have kA := mkHid (fun W h h' => times_f (.agg #[.bool Y_1, .slice Y_2 Y_3 Y_4, .bool Y_5, .slice Y_6 Y_7 Y_8]) (.agg #[.bool A1, .slice A2 A3 A4, .bool A5, .slice A6 A7 A8]) U a W (Nat.le_trans bu.out (by decide)) (Nat.le_trans nA.out (by decide)) h h')
    have kB := mkHid (fun W h h' => times_f (.agg #[.bool Y_1, .slice Y_2 Y_3 Y_4, .bool Y_5, .slice Y_6 Y_7 Y_8]) (.agg #[.bool B1, .slice B2 B3 B4, .bool B5, .slice B6 B7 B8]) U b W (Nat.le_trans bu.out (by decide)) (Nat.le_trans nB.out (by decide)) h h')
    have kC := mkHid (fun W h h' => times_f (.agg #[.bool Y_1, .slice Y_2 Y_3 Y_4, .bool Y_5, .slice Y_6 Y_7 Y_8]) (.agg #[.bool C1, .slice C2 C3 C4, .bool C5, .slice C6 C7 C8]) U c W (Nat.le_trans bu.out (by decide)) (Nat.le_trans nC.out (by decide)) h h')
    have kD := mkHid (fun W h h' => times_f (.agg #[.bool Y_1, .slice Y_2 Y_3 Y_4, .bool Y_5, .slice Y_6 Y_7 Y_8]) (.agg #[.bool D1, .slice D2 D3 D4, .bool D5, .slice D6 D7 D8]) U d W (Nat.le_trans bu.out (by decide)) (Nat.le_trans nD.out (by decide)) h h')
    have mA := nf_mul_le U a
    have mB := nf_mul_le U b
    have mC := nf_mul_le U c
    have mD := nf_mul_le U d
    have nA' := nf_sub_le (U * a) V
    have nD' := nf_sub_le (U * d) V
    have bu' := bu.out
    have bv' := bv.out
    have nA'' := nA.out
    have nB'' := nB.out
    have nC'' := nC.out
    have nD'' := nD.out
    have qA : nf (U * a - V) ≤ 268435456 := by omega
    have qB : nf (U * b) ≤ 268435456 := by omega
    have qC : nf (U * c) ≤ 268435456 := by omega
    have qD : nf (U * d - V) ≤ 268435456 := by omega
    have sA := mkHid (fun v W h h' => minus_f v (.agg #[.bool X_1, .slice X_2 X_3 X_4, .bool X_5, .slice X_6 X_7 X_8]) (U * a) V W (by omega) (by omega) h h')
    have sD := mkHid (fun v W h h' => minus_f v (.agg #[.bool X_1, .slice X_2 X_3 X_4, .bool X_5, .slice X_6 X_7 X_8]) (U * d) V W (by omega) (by omega) h h')
    replace qA := mkHid qA
    replace qB := mkHid qB
    replace qC := mkHid qC
    replace qD := mkHid qD
    clear mA mB mC mD nA' nD' bu' bv' nA'' nB'' nC'' nD''
    apply region_fresh [.val _, .val _, .val _, .pred (fun W v => FracR W v (U * a)), .val _, .pred (fun W v => FracR W v (U * a - V)), .val _, .val _, .val _, .pred (fun W v => FracR W v (U * b)), .val _, .val _, .val _, .pred (fun W v => FracR W v (U * c)), .val _, .val _, .val _, .pred (fun W v => FracR W v (U * d)), .val _, .pred (fun W v => FracR W v (U * d - V)), .pred (fun W v => MatR W v (U * a - V) (U * b) (U * c) (U * d - V)), .fresh (VarAt w6.heap.size #[.bool false, .slice none 0 0, .bool false, .slice none 0 0, .bool false, .slice none 0 0, .bool false, .slice none 0 0, .bool false, .slice none 0 0, .bool false, .slice none 0 0, .bool false, .slice none 0 0, .bool false, .slice none 0 0] 28)] (by kernel_rfl) (Fresh.stable_vals _ (Fresh.stable_vals _ (Fresh.stable_vals _ (fst_fracR _ (Fresh.stable_vals _ (fst_fracR _ (Fresh.stable_vals _ (Fresh.stable_vals _ (Fresh.stable_vals _ (fst_fracR _ (Fresh.stable_vals _ (Fresh.stable_vals _ (Fresh.stable_vals _ (fst_fracR _ (Fresh.stable_vals _ (Fresh.stable_vals _ (Fresh.stable_vals _ (fst_fracR _ (Fresh.stable_vals _ (fst_fracR _ (fst_matR _ _ _ _ (fst_var _ _ _ trivial))))))))))))))))))))))
    refine ⟨fun W hW _ => by go_simp; exact ⟨Ext.refl _, rfl⟩, ?_⟩
    refine ⟨fun W hW _ => by go_simp; exact ⟨Ext.refl _, rfl⟩, ?_⟩
    refine ⟨fun W hW _ => by go_simp; exact ⟨Ext.refl _, rfl⟩, ?_⟩
    refine ⟨fun W hW hF => ?b3, fun x3 => ?_⟩
    case b3 =>
      clear hF
      go_simp
      refine (kA.out W (gU.out.ext hW) (fA.out.ext hW)).mono ?_
      rintro e w' ⟨v, rfl, e1, e2⟩
      exact ⟨v, rfl, e1, e2.r⟩
    refine ⟨fun W hW _ => by go_simp; exact ⟨Ext.refl _, rfl⟩, ?_⟩
    refine ⟨fun W hW hF => ?b5, fun x5 => ?_⟩
    case b5 =>
      have dd : FracR W x3 (U * a) := hF.1 (by kernel_rfl)
      replace dd := mkHid dd
      clear hF
      go_simp
      refine (sA.out _ W dd.out (gV.out.ext hW)).mono ?_
      rintro e w' ⟨v, rfl, e1, e2⟩
      exact ⟨v, rfl, e1, e2.r⟩
    refine ⟨fun W hW _ => by go_simp; exact ⟨Ext.refl _, rfl⟩, ?_⟩
    refine ⟨fun W hW _ => by go_simp; exact ⟨Ext.refl _, rfl⟩, ?_⟩
    refine ⟨fun W hW _ => by go_simp; exact ⟨Ext.refl _, rfl⟩, ?_⟩
    refine ⟨fun W hW hF => ?b9, fun x9 => ?_⟩
    case b9 =>
      clear hF
      go_simp
      refine (kB.out W (gU.out.ext hW) (fB.out.ext hW)).mono ?_
      rintro e w' ⟨v, rfl, e1, e2⟩
      exact ⟨v, rfl, e1, e2.r⟩
    refine ⟨fun W hW _ => by go_simp; exact ⟨Ext.refl _, rfl⟩, ?_⟩
    refine ⟨fun W hW _ => by go_simp; exact ⟨Ext.refl _, rfl⟩, ?_⟩
    refine ⟨fun W hW _ => by go_simp; exact ⟨Ext.refl _, rfl⟩, ?_⟩
    refine ⟨fun W hW hF => ?b13, fun x13 => ?_⟩
    case b13 =>
      clear hF
      go_simp
      refine (kC.out W (gU.out.ext hW) (fC.out.ext hW)).mono ?_
      rintro e w' ⟨v, rfl, e1, e2⟩
      exact ⟨v, rfl, e1, e2.r⟩
    refine ⟨fun W hW _ => by go_simp; exact ⟨Ext.refl _, rfl⟩, ?_⟩
    refine ⟨fun W hW _ => by go_simp; exact ⟨Ext.refl _, rfl⟩, ?_⟩
    refine ⟨fun W hW _ => by go_simp; exact ⟨Ext.refl _, rfl⟩, ?_⟩
    refine ⟨fun W hW hF => ?b17, fun x17 => ?_⟩
    case b17 =>
      clear hF
      go_simp
      refine (kD.out W (gU.out.ext hW) (fD.out.ext hW)).mono ?_
      rintro e w' ⟨v, rfl, e1, e2⟩
      exact ⟨v, rfl, e1, e2.r⟩
    refine ⟨fun W hW _ => by go_simp; exact ⟨Ext.refl _, rfl⟩, ?_⟩
    refine ⟨fun W hW hF => ?b19, fun x19 => ?_⟩
    case b19 =>
      have dd : FracR W x17 (U * d) := hF.1 (by kernel_rfl)
      replace dd := mkHid dd
      clear hF
      go_simp
      refine (sD.out _ W dd.out (gV.out.ext hW)).mono ?_
      rintro e w' ⟨v, rfl, e1, e2⟩
      exact ⟨v, rfl, e1, e2.r⟩
    refine ⟨fun W hW hF => ?b20, fun x20 => ?_⟩
    case b20 =>
      have t19 : FracR W x19 (U * d - V) := hF.1 (by kernel_rfl)
      have t13 : FracR W x13 (U * c) := hF.2.2.1 (by kernel_rfl)
      have t9 : FracR W x9 (U * b) := hF.2.2.2.1 (by kernel_rfl)
      have t5 : FracR W x5 (U * a - V) := hF.2.2.2.2.1 (by kernel_rfl)
      obtain ⟨P1, P2, P3, P4, P5, P6, P7, P8, rfl⟩ := t5.shape
      obtain ⟨Q1, Q2, Q3, Q4, Q5, Q6, Q7, Q8, rfl⟩ := t9.shape
      obtain ⟨S1, S2, S3, S4, S5, S6, S7, S8, rfl⟩ := t13.shape
      obtain ⟨T1, T2, T3, T4, T5, T6, T7, T8, rfl⟩ := t19.shape
      have mr : MatR W (.agg #[.bool P1, .slice P2 P3 P4, .bool P5, .slice P6 P7 P8, .bool Q1, .slice Q2 Q3 Q4, .bool Q5, .slice Q6 Q7 Q8, .bool S1, .slice S2 S3 S4, .bool S5, .slice S6 S7 S8, .bool T1, .slice T2 T3 T4, .bool T5, .slice T6 T7 T8]) (U * a - V) (U * b) (U * c) (U * d - V) := ⟨_, _, _, _, _, _, _, _, _, _, _, _, _, _, _, _, _, _, _, _, _, _, _, _, _, _, _, _, _, _, _, _, rfl, t5, t9, t13, t19⟩
      replace mr := mkHid mr
      clear hF t5 t9 t13 t19
      go_simp
      exact ⟨Ext.refl _, mr.out⟩
    refine ⟨fun W' hW' _ => ?b21, fun xv => fun W' hW' hF hAp => ?fin3⟩
    case b21 =>
      have hnv := new_var (b := w6.heap.size) (cs := #[.bool false, .slice none 0 0, .bool false, .slice none 0 0, .bool false, .slice none 0 0, .bool false, .slice none 0 0, .bool false, .slice none 0 0, .bool false, .slice none 0 0, .bool false, .slice none 0 0, .bool false, .slice none 0 0]) (T := 28) W' hW'.size
      replace hnv := mkHid hnv
      go_simp
      exact ⟨hnv.out.1, hnv.out.2.1⟩
    case fin3 =>
    obtain ⟨f21, f20, -⟩ := hF
    obtain ⟨⟨gp, rfl, hgpb, hgp⟩, _⟩ := f21 rfl
    have mr : MatR W' x20 (U * a - V) (U * b) (U * c) (U * d - V) := f20 rfl
    clear f21 f20 hAp
    clear m0 m1 m2 m3 m4 m5 m6 m7 m8 m9 m10 m11 m12 m13 m14 m15 u0 u1 u2 u3 v0 v1 v2 v3
    obtain ⟨P1, P2, P3, P4, P5, P6, P7, P8, Q1, Q2, Q3, Q4, Q5, Q6, Q7, Q8, S1, S2, S3, S4, S5, S6, S7, S8, T1, T2, T3, T4, T5, T6, T7, T8, rfl, t5, t9, t13, t19⟩ := mr
    obtain ⟨w7, hw7⟩ : ∃ w7, w7 = W'.setRow gp #[.bool P1, .slice P2 P3 P4, .bool P5, .slice P6 P7 P8, .bool Q1, .slice Q2 Q3 Q4, .bool Q5, .slice Q6 Q7 Q8, .bool S1, .slice S2 S3 S4, .bool S5, .slice S6 S7 S8, .bool T1, .slice T2 T3 T4, .bool T5, .slice T6 T7 T8] := ⟨_, rfl⟩
    have fl : ∀ v q, FracR W' v q → FracR w7 v q := fun v q h => by
      rw [hw7]
      exact h.flat hgp (by simp [flatV]) _
    have z17 : w7.heap[w.heap.size + 1]? = some (.cells #[.bool false, .slice none 0 0, .bool false, .slice none 0 0, .bool false, .slice none 0 0, .bool false, .slice none 0 0, .bool false, .slice none 0 0, .bool false, .slice none 0 0, .bool false, .slice none 0 0, .bool false, .slice none 0 0] 28 (0, 0)) := by
      rw [hw7, setRow_other _ _ _ _ (by omega)]
      exact hW'.blk z1.out
    have hz6 : w.heap.size ≤ w6.heap.size := hE.out.size
    have hE7 : Ext w w7 := by
      rw [hw7]
      exact (hE.out.trans hW').row (by omega) _
    have zp : w7.heap[gp]? = some (.cells #[.bool P1, .slice P2 P3 P4, .bool P5, .slice P6 P7 P8, .bool Q1, .slice Q2 Q3 Q4, .bool Q5, .slice Q6 Q7 Q8, .bool S1, .slice S2 S3 S4, .bool S5, .slice S6 S7 S8, .bool T1, .slice T2 T3 T4, .bool T5, .slice T6 T7 T8] 28 (0, 0)) := by rw [hw7]; exact setRow_heap _ _ _ _ _ _ hgp
    replace t5 := mkHid (fl _ _ t5)
    replace t9 := mkHid (fl _ _ t9)
    replace t13 := mkHid (fl _ _ t13)
    replace t19 := mkHid (fl _ _ t19)
    have h67 : w6.heap.size < w7.heap.size := by
      have := (Array.getElem?_eq_some_iff.1 zp).1
      omega
    replace hE := mkHid hE7
    replace z1 := mkHid z17
    replace zp := mkHid zp
    replace hgp := mkHid hgp
    replace hw7 := mkHid hw7
    clear fl z17 hE7 hW' fA fB fC fD gU gV z0 zu zv kA kB kC kD sA sD

    have han := mkHid (fun W g h => answer_f g 4 [U * a - V, U * b, U * c, U * d - V] W (by simp) (fun y hy => by simp at hy; have := qA.out; have := qB.out; have := qC.out; have := qD.out; rcases hy with rfl | rfl | rfl | rfl <;> omega) h)
    have kP := mkHid (fun W h => copy_f (.agg #[.bool P1, .slice P2 P3 P4, .bool P5, .slice P6 P7 P8]) (U * a - V) W qA.out h)
    have kQ := mkHid (fun W h => copy_f (.agg #[.bool Q1, .slice Q2 Q3 Q4, .bool Q5, .slice Q6 Q7 Q8]) (U * b) W qB.out h)
    have kS := mkHid (fun W h => copy_f (.agg #[.bool S1, .slice S2 S3 S4, .bool S5, .slice S6 S7 S8]) (U * c) W qC.out h)
    have kT := mkHid (fun W h => copy_f (.agg #[.bool T1, .slice T2 T3 T4, .bool T5, .slice T6 T7 T8]) (U * d - V) W qD.out h)
    obtain ⟨C, hC⟩ : ∃ C : Int, C = if ([U * a - V, U * b, U * c, U * d - V].any fun x => decide (2048 < nf x)) = true then 4 else 0 := ⟨_, rfl⟩
    rw [← hC, show [U * a - V, U * b, U * c, U * d - V].length = 4 from rfl] at han
    generalize U * a - V = RP at *
    generalize U * b = RQ at *
    generalize U * c = RS at *
    generalize U * d - V = RT at *
    have hFE : C = fineE RP RQ RS RT := by
      rw [hC]
      unfold fineE fine4
      by_cases u1 : nf RP ≤ 2048 <;> by_cases u2 : nf RQ ≤ 2048 <;> by_cases u3 : nf RS ≤ 2048 <;> by_cases u4 : nf RT ≤ 2048 <;> simp [u1, u2, u3, u4] <;> omega
    have hz1 : w.heap.size + 1 < w7.heap.size := (Array.getElem?_eq_some_iff.1 z1.out).1
    have e0 : ∀ W', Ext w7 W' → W'.cell? ⟨gp, 0, none⟩ = some (.bool P1) := fun W e => by simp [World.cell?, e.blk zp.out]
    have e1 : ∀ W', Ext w7 W' → W'.cell? ⟨gp, 1, none⟩ = some (.slice P2 P3 P4) := fun W e => by simp [World.cell?, e.blk zp.out]
    have e2 : ∀ W', Ext w7 W' → W'.cell? ⟨gp, 2, none⟩ = some (.bool P5) := fun W e => by simp [World.cell?, e.blk zp.out]
    have e3 : ∀ W', Ext w7 W' → W'.cell? ⟨gp, 3, none⟩ = some (.slice P6 P7 P8) := fun W e => by simp [World.cell?, e.blk zp.out]
    have e4 : ∀ W', Ext w7 W' → W'.cell? ⟨gp, 4, none⟩ = some (.bool Q1) := fun W e => by simp [World.cell?, e.blk zp.out]
    have e5 : ∀ W', Ext w7 W' → W'.cell? ⟨gp, 5, none⟩ = some (.slice Q2 Q3 Q4) := fun W e => by simp [World.cell?, e.blk zp.out]
    have e6 : ∀ W', Ext w7 W' → W'.cell? ⟨gp, 6, none⟩ = some (.bool Q5) := fun W e => by simp [World.cell?, e.blk zp.out]
    have e7 : ∀ W', Ext w7 W' → W'.cell? ⟨gp, 7, none⟩ = some (.slice Q6 Q7 Q8) := fun W e => by simp [World.cell?, e.blk zp.out]
    have e8 : ∀ W', Ext w7 W' → W'.cell? ⟨gp, 8, none⟩ = some (.bool S1) := fun W e => by simp [World.cell?, e.blk zp.out]
    have e9 : ∀ W', Ext w7 W' → W'.cell? ⟨gp, 9, none⟩ = some (.slice S2 S3 S4) := fun W e => by simp [World.cell?, e.blk zp.out]
    have e10 : ∀ W', Ext w7 W' → W'.cell? ⟨gp, 10, none⟩ = some (.bool S5) := fun W e => by simp [World.cell?, e.blk zp.out]
    have e11 : ∀ W', Ext w7 W' → W'.cell? ⟨gp, 11, none⟩ = some (.slice S6 S7 S8) := fun W e => by simp [World.cell?, e.blk zp.out]
    have e12 : ∀ W', Ext w7 W' → W'.cell? ⟨gp, 12, none⟩ = some (.bool T1) := fun W e => by simp [World.cell?, e.blk zp.out]
    have e13 : ∀ W', Ext w7 W' → W'.cell? ⟨gp, 13, none⟩ = some (.slice T2 T3 T4) := fun W e => by simp [World.cell?, e.blk zp.out]
    have e14 : ∀ W', Ext w7 W' → W'.cell? ⟨gp, 14, none⟩ = some (.bool T5) := fun W e => by simp [World.cell?, e.blk zp.out]
    have e15 : ∀ W', Ext w7 W' → W'.cell? ⟨gp, 15, none⟩ = some (.slice T6 T7 T8) := fun W e => by simp [World.cell?, e.blk zp.out]
    have i0 := e0 w7 (Ext.refl _)
    have i1 := e1 w7 (Ext.refl _)
    have i2 := e2 w7 (Ext.refl _)
    have i3 := e3 w7 (Ext.refl _)
    have i4 := e4 w7 (Ext.refl _)
    have i5 := e5 w7 (Ext.refl _)
    have i6 := e6 w7 (Ext.refl _)
    have i7 := e7 w7 (Ext.refl _)
    have i8 := e8 w7 (Ext.refl _)
    have i9 := e9 w7 (Ext.refl _)
    have i10 := e10 w7 (Ext.refl _)
    have i11 := e11 w7 (Ext.refl _)
    have i12 := e12 w7 (Ext.refl _)
    have i13 := e13 w7 (Ext.refl _)
    have i14 := e14 w7 (Ext.refl _)
    have i15 := e15 w7 (Ext.refl _)
    replace hC := mkHid hC
    replace hFE := mkHid hFE
    clear zp
    go_simp
    go_wp2_with (refine wpList_store_row rfl 28 (.tmp 10) (.tmp 64) rfl gp #[.bool P1, .slice P2 P3 P4, .bool P5, .slice P6 P7 P8, .bool Q1, .slice Q2 Q3 Q4, .bool Q5, .slice Q6 Q7 Q8, .bool S1, .slice S2 S3 S4, .bool S5, .slice S6 S7 S8, .bool T1, .slice T2 T3 T4, .bool T5, .slice T6 T7 T8] rfl rfl 28 _ hgp.out (by kernel_rfl) rfl (by kernel_rfl) ?_; rw [← hw7.out])
    clear hgp hw7
    clear i0 i1 i2 i3 i4 i5 i6 i7 i8 i9 i10 i11 i12 i13 i14 i15
    have hEc := (Ext.refl w7).al (.cells #[.bool P1, .slice P2 P3 P4, .bool P5, .slice P6 P7 P8, .bool Q1, .slice Q2 Q3 Q4, .bool Q5, .slice Q6 Q7 Q8, .bool S1, .slice S2 S3 S4, .bool S5, .slice S6 S7 S8, .bool T1, .slice T2 T3 T4, .bool T5, .slice T6 T7 T8] 26)
    have hl := lr_four (heap_alloc_new w7 (.cells #[.bool P1, .slice P2 P3 P4, .bool P5, .slice P6 P7 P8, .bool Q1, .slice Q2 Q3 Q4, .bool Q5, .slice Q6 Q7 Q8, .bool S1, .slice S2 S3 S4, .bool S5, .slice S6 S7 S8, .bool T1, .slice T2 T3 T4, .bool T5, .slice T6 T7 T8] 26)) (t5.out.ext hEc) (t9.out.ext hEc) (t13.out.ext hEc) (t19.out.ext hEc)
    refine (han.out _ _ hl).mono ?_
    rintro e w8 ⟨rfl, hE8⟩
    clear hl han
    have h78 := hEc.trans hE8
    replace hE := mkHid (hE.out.trans h78)
    replace z1 := mkHid (h78.blk z1.out)
    replace t5 := mkHid (t5.out.ext h78)
    replace t9 := mkHid (t9.out.ext h78)
    replace t13 := mkHid (t13.out.ext h78)
    replace t19 := mkHid (t19.out.ext h78)
    replace e0 := fun W' (e : Ext w8 W') => e0 W' (h78.trans e)
    replace e1 := fun W' (e : Ext w8 W') => e1 W' (h78.trans e)
    replace e2 := fun W' (e : Ext w8 W') => e2 W' (h78.trans e)
    replace e3 := fun W' (e : Ext w8 W') => e3 W' (h78.trans e)
    replace e4 := fun W' (e : Ext w8 W') => e4 W' (h78.trans e)
    replace e5 := fun W' (e : Ext w8 W') => e5 W' (h78.trans e)
    replace e6 := fun W' (e : Ext w8 W') => e6 W' (h78.trans e)
    replace e7 := fun W' (e : Ext w8 W') => e7 W' (h78.trans e)
    replace e8 := fun W' (e : Ext w8 W') => e8 W' (h78.trans e)
    replace e9 := fun W' (e : Ext w8 W') => e9 W' (h78.trans e)
    replace e10 := fun W' (e : Ext w8 W') => e10 W' (h78.trans e)
    replace e11 := fun W' (e : Ext w8 W') => e11 W' (h78.trans e)
    replace e12 := fun W' (e : Ext w8 W') => e12 W' (h78.trans e)
    replace e13 := fun W' (e : Ext w8 W') => e13 W' (h78.trans e)
    replace e14 := fun W' (e : Ext w8 W') => e14 W' (h78.trans e)
    replace e15 := fun W' (e : Ext w8 W') => e15 W' (h78.trans e)
    clear hEc hE8 h78
    by_cases hf : fine4 RP RQ RS RT = true
    · have hC0 : C = 0 := by rw [hFE.out]; unfold fineE; rw [hf]; rfl
      have hf2 := hf
      unfold fine4 at hf2
      simp only [Bool.and_eq_true, decide_eq_true_eq] at hf2
      obtain ⟨⟨⟨b1, b2⟩, b3⟩, b4⟩ := hf2
      replace b1 := mkHid b1
      replace b2 := mkHid b2
      replace b3 := mkHid b3
      replace b4 := mkHid b4
      replace hf := mkHid hf
      subst hC0
      go_wp2_with fail
      apply region_ext [.val _, .val _, .pred (fun W v => FracR W v RP), .val _, .val _, .pred (fun W v => FracR W v RQ), .val _, .val _, .pred (fun W v => FracR W v RS), .val _, .val _, .pred (fun W v => FracR W v RT)] (by kernel_rfl) (stable_vals _ (stable_vals _ (st_fracR _ (stable_vals _ (stable_vals _ (st_fracR _ (stable_vals _ (stable_vals _ (st_fracR _ (stable_vals _ (stable_vals _ (st_fracR _ trivial))))))))))))
      iterate 2 (refine ⟨fun W hW _ => by go_simp; exact ⟨Ext.refl _, rfl⟩, ?_⟩)
      refine ⟨fun W hW _ => ?c0, fun y0 => ?_⟩
      case c0 =>
        go_simp
        refine (kP.out W (t5.out.ext hW)).mono ?_
        rintro e w' ⟨v, rfl, e1, e2⟩
        exact ⟨v, rfl, e1, e2.r⟩
      iterate 2 (refine ⟨fun W hW _ => by go_simp; exact ⟨Ext.refl _, rfl⟩, ?_⟩)
      refine ⟨fun W hW _ => ?c1, fun y1 => ?_⟩
      case c1 =>
        go_simp
        refine (kQ.out W (t9.out.ext hW)).mono ?_
        rintro e w' ⟨v, rfl, e1, e2⟩
        exact ⟨v, rfl, e1, e2.r⟩
      iterate 2 (refine ⟨fun W hW _ => by go_simp; exact ⟨Ext.refl _, rfl⟩, ?_⟩)
      refine ⟨fun W hW _ => ?c2, fun y2 => ?_⟩
      case c2 =>
        go_simp
        refine (kS.out W (t13.out.ext hW)).mono ?_
        rintro e w' ⟨v, rfl, e1, e2⟩
        exact ⟨v, rfl, e1, e2.r⟩
      iterate 2 (refine ⟨fun W hW _ => by go_simp; exact ⟨Ext.refl _, rfl⟩, ?_⟩)
      refine ⟨fun W hW _ => ?c3, fun y3 => fun W hW hF => ?last⟩
      case c3 =>
        go_simp
        refine (kT.out W (t19.out.ext hW)).mono ?_
        rintro e w' ⟨v, rfl, e1, e2⟩
        exact ⟨v, rfl, e1, e2.r⟩
      case last =>
        have f3 : FracR W y3 RT := hF.1 rfl
        have f2 : FracR W y2 RS := hF.2.1 rfl
        have f1 : FracR W y1 RQ := hF.2.2.1 rfl
        have f0 : FracR W y0 RP := hF.2.2.2.1 rfl
        obtain ⟨E1, E2, E3, E4, E5, E6, E7, E8, rfl⟩ := f0.shape
        obtain ⟨G1, G2, G3, G4, G5, G6, G7, G8, rfl⟩ := f1.shape
        obtain ⟨H1, H2, H3, H4, H5, H6, H7, H8, rfl⟩ := f2.shape
        obtain ⟨I1, I2, I3, I4, I5, I6, I7, I8, rfl⟩ := f3.shape
        clear hF e0 e1 e2 e3 e4 e5 e6 e7 e8 e9 e10 e11 e12 e13 e14 e15
        have z1' := hW.blk z1.out
        have FE := (hE.out.trans hW).row (show w.heap.size ≤ w.heap.size + 1 by omega) #[.bool E1, .slice E2 E3 E4, .bool E5, .slice E6 E7 E8, .bool G1, .slice G2 G3 G4, .bool G5, .slice G6 G7 G8, .bool H1, .slice H2 H3 H4, .bool H5, .slice H6 H7 H8, .bool I1, .slice I2 I3 I4, .bool I5, .slice I6 I7 I8]
        have g0 := (f0.flat z1' (by simp [flatV]) #[.bool E1, .slice E2 E3 E4, .bool E5, .slice E6 E7 E8, .bool G1, .slice G2 G3 G4, .bool G5, .slice G6 G7 G8, .bool H1, .slice H2 H3 H4, .bool H5, .slice H6 H7 H8, .bool I1, .slice I2 I3 I4, .bool I5, .slice I6 I7 I8]).any (Nat.le_trans b1.out (by decide))
        rw [if_pos b1.out] at g0
        have j0 : fineO RP RQ RS RT RP = some RP := by unfold fineO; rw [hf.out]; rfl
        rw [← j0] at g0
        have g1 := (f1.flat z1' (by simp [flatV]) #[.bool E1, .slice E2 E3 E4, .bool E5, .slice E6 E7 E8, .bool G1, .slice G2 G3 G4, .bool G5, .slice G6 G7 G8, .bool H1, .slice H2 H3 H4, .bool H5, .slice H6 H7 H8, .bool I1, .slice I2 I3 I4, .bool I5, .slice I6 I7 I8]).any (Nat.le_trans b2.out (by decide))
        rw [if_pos b2.out] at g1
        have j1 : fineO RP RQ RS RT RQ = some RQ := by unfold fineO; rw [hf.out]; rfl
        rw [← j1] at g1
        have g2 := (f2.flat z1' (by simp [flatV]) #[.bool E1, .slice E2 E3 E4, .bool E5, .slice E6 E7 E8, .bool G1, .slice G2 G3 G4, .bool G5, .slice G6 G7 G8, .bool H1, .slice H2 H3 H4, .bool H5, .slice H6 H7 H8, .bool I1, .slice I2 I3 I4, .bool I5, .slice I6 I7 I8]).any (Nat.le_trans b3.out (by decide))
        rw [if_pos b3.out] at g2
        have j2 : fineO RP RQ RS RT RS = some RS := by unfold fineO; rw [hf.out]; rfl
        rw [← j2] at g2
        have g3 := (f3.flat z1' (by simp [flatV]) #[.bool E1, .slice E2 E3 E4, .bool E5, .slice E6 E7 E8, .bool G1, .slice G2 G3 G4, .bool G5, .slice G6 G7 G8, .bool H1, .slice H2 H3 H4, .bool H5, .slice H6 H7 H8, .bool I1, .slice I2 I3 I4, .bool I5, .slice I6 I7 I8]).any (Nat.le_trans b4.out (by decide))
        rw [if_pos b4.out] at g3
        have j3 : fineO RP RQ RS RT RT = some RT := by unfold fineO; rw [hf.out]; rfl
        rw [← j3] at g3
        have FR : AnyM (W.setRow (w.heap.size + 1) #[.bool E1, .slice E2 E3 E4, .bool E5, .slice E6 E7 E8, .bool G1, .slice G2 G3 G4, .bool G5, .slice G6 G7 G8, .bool H1, .slice H2 H3 H4, .bool H5, .slice H6 H7 H8, .bool I1, .slice I2 I3 I4, .bool I5, .slice I6 I7 I8]) (.agg #[.bool E1, .slice E2 E3 E4, .bool E5, .slice E6 E7 E8, .bool G1, .slice G2 G3 G4, .bool G5, .slice G6 G7 G8, .bool H1, .slice H2 H3 H4, .bool H5, .slice H6 H7 H8, .bool I1, .slice I2 I3 I4, .bool I5, .slice I6 I7 I8]) (powOA n a b c d) (powOB n a b c d) (powOC n a b c d) (powOD n a b c d) := ⟨_, _, _, _, _, _, _, _, _, _, _, _, _, _, _, _, _, _, _, _, _, _, _, _, _, _, _, _, _, _, _, _, rfl, by rw [hOP.out]; exact g0, by rw [hOQ.out]; exact g1, by rw [hOS.out]; exact g2, by rw [hOT.out]; exact g3⟩
        replace z1' := mkHid z1'
        replace FE := mkHid FE
        replace FR := mkHid FR
        clear f0 f1 f2 f3 g0 g1 g2 g3 j0 j1 j2 j3 hW
        go_simp
        go_wp2_with (refine wpList_store_row rfl 28 (.tmp 4) (.tmp 91) rfl (w.heap.size + 1) #[.bool E1, .slice E2 E3 E4, .bool E5, .slice E6 E7 E8, .bool G1, .slice G2 G3 G4, .bool G5, .slice G6 G7 G8, .bool H1, .slice H2 H3 H4, .bool H5, .slice H6 H7 H8, .bool I1, .slice I2 I3 I4, .bool I5, .slice I6 I7 I8] rfl rfl 28 _ z1'.out (by kernel_rfl) rfl (by kernel_rfl) ?_)
        exact bodyPost_ret (results_row_tmp rfl _ _ (w.heap.size + 1) 28 #[.bool E1, .slice E2 E3 E4, .bool E5, .slice E6 E7 E8, .bool G1, .slice G2 G3 G4, .bool G5, .slice G6 G7 G8, .bool H1, .slice H2 H3 H4, .bool H5, .slice H6 H7 H8, .bool I1, .slice I2 I3 I4, .bool I5, .slice I6 I7 I8] _ _ rfl rfl (setRow_heap _ _ _ _ _ _ z1'.out) Tryz.underlying28 rfl (by kernel_rfl)) rfl ⟨_, by rw [hOE.out, ← hFE.out]; rfl, FE.out, FR.out⟩
    · have hC4 : C = 4 := by rw [hFE.out]; unfold fineE; rw [if_neg hf]
      have jP : fineO RP RQ RS RT RP = none := by unfold fineO; rw [if_neg hf]
      have jQ : fineO RP RQ RS RT RQ = none := by unfold fineO; rw [if_neg hf]
      have jS : fineO RP RQ RS RT RS = none := by unfold fineO; rw [if_neg hf]
      have jT : fineO RP RQ RS RT RT = none := by unfold fineO; rw [if_neg hf]
      subst hC4
      replace hf := mkHid hf
      clear e0 e1 e2 e3 e4 e5 e6 e7 e8 e9 e10 e11 e12 e13 e14 e15
      have FE := (hE.out.row (show w.heap.size ≤ w.heap.size + 1 by omega) #[.bool false, .slice none 0 0, .bool false, .slice none 0 0, .bool false, .slice none 0 0, .bool false, .slice none 0 0, .bool false, .slice none 0 0, .bool false, .slice none 0 0, .bool false, .slice none 0 0, .bool false, .slice none 0 0])
      have FR : AnyM (w8.setRow (w.heap.size + 1) #[.bool false, .slice none 0 0, .bool false, .slice none 0 0, .bool false, .slice none 0 0, .bool false, .slice none 0 0, .bool false, .slice none 0 0, .bool false, .slice none 0 0, .bool false, .slice none 0 0, .bool false, .slice none 0 0]) (.agg #[.bool false, .slice none 0 0, .bool false, .slice none 0 0, .bool false, .slice none 0 0, .bool false, .slice none 0 0, .bool false, .slice none 0 0, .bool false, .slice none 0 0, .bool false, .slice none 0 0, .bool false, .slice none 0 0]) (powOA n a b c d) (powOB n a b c d) (powOC n a b c d) (powOD n a b c d) := by rw [hOP.out, hOQ.out, hOS.out, hOT.out, jP, jQ, jS, jT]; exact anyM_zero _
      clear jP jQ jS jT
      replace FE := mkHid FE
      replace FR := mkHid FR
      go_wp2_with (refine wpList_store_row rfl 28 (.tmp 4) (.tmp 77) rfl (w.heap.size + 1) #[.bool false, .slice none 0 0, .bool false, .slice none 0 0, .bool false, .slice none 0 0, .bool false, .slice none 0 0, .bool false, .slice none 0 0, .bool false, .slice none 0 0, .bool false, .slice none 0 0, .bool false, .slice none 0 0] rfl rfl 28 _ z1.out (by kernel_rfl) rfl (by kernel_rfl) ?_)
      exact bodyPost_ret (results_row_tmp rfl _ _ (w.heap.size + 1) 28 #[.bool false, .slice none 0 0, .bool false, .slice none 0 0, .bool false, .slice none 0 0, .bool false, .slice none 0 0, .bool false, .slice none 0 0, .bool false, .slice none 0 0, .bool false, .slice none 0 0, .bool false, .slice none 0 0] _ _ rfl rfl (setRow_heap _ _ _ _ _ _ z1.out) Tryz.underlying28 rfl (by kernel_rfl)) rfl ⟨_, by rw [hOE.out, ← hFE.out]; rfl, FE.out, FR.out⟩
end Go.Proofs.YtpmfohhpaoagfaaGreat
namespace Go.Proofs.YtpmfohhpaoagfaaGreat
open Go Go.RowKit Go.Proofs
def chE (n : Int) : Option Rat → Int
  | none => 1
  | some x => if n < 0 ∨ 4096 < n then countE n else chebE n.toNat x
def chU (n : Int) : Option Rat → Option Rat
  | none => none
  | some x => if n < 0 ∨ 4096 < n then none else chebOU n.toNat x
def chT (n : Int) : Option Rat → Option Rat
  | none => none
  | some x => if n < 0 ∨ 4096 < n then none else chebOT n.toNat x
theorem cheb_c (n : Int) (v : Value) (o : Option Rat) (w : World) (h : AnyF w v o) :
    Calls Tryz.prog 33 #[.int .i64 n, v] w fun e w' => ∃ u t, e = .returned (.tuple #[u, t, .int .i64 (chE n o)]) ∧ Ext w w' ∧ AnyF w' u (chU n o) ∧ AnyF w' t (chT n o) := by
  cases o with
  | none => exact cheb_none n v w h
  | some x =>
    unfold chE chU chT
    by_cases hn : n < 0 ∨ 4096 < n
    · simp only [if_pos hn]
      exact cheb_count n x v w h hn
    · simp only [if_neg hn]
      obtain ⟨m, rfl⟩ : ∃ m : Nat, n = m := ⟨n.toNat, by omega⟩
      exact cheb_fine m x v w h (by omega)
/-- What is known where Chebyshev refuses nothing. -/
theorem chE_ok {n : Int} {o : Option Rat} (h : chE n o = 0) : ∃ x, o = some x ∧ 0 ≤ n ∧ n ≤ 4096 ∧ chU n o = some (chebU n.toNat x) ∧ chT n o = some (chebT n.toNat x) := by
  cases o with
  | none => cases h
  | some x =>
    unfold chE at h
    by_cases hn : n < 0 ∨ 4096 < n
    · simp only [if_pos hn] at h
      unfold countE at h
      rcases hn with h1 | h1
      · rw [if_pos h1] at h; cases h
      · rw [if_neg (by omega), if_pos h1] at h; cases h
    · simp only [if_neg hn] at h
      unfold chebE at h
      refine ⟨x, rfl, by omega, by omega, ?_, ?_⟩
      · unfold chU chebOU
        simp only [if_neg hn]
        by_cases hf : nf (chebU n.toNat x) ≤ 2048 ∧ nf (chebT n.toNat x) ≤ 2048
        · rw [if_pos hf]
        · rw [if_neg hf] at h; cases h
      · unfold chT chebOT
        simp only [if_neg hn]
        by_cases hf : nf (chebU n.toNat x) ≤ 2048 ∧ nf (chebT n.toNat x) ≤ 2048
        · rw [if_pos hf]
        · rw [if_neg hf] at h; cases h
theorem opE_ok {f : Rat → Rat → Rat} {o1 o2 : Option Rat} (h : opE f o1 o2 = 0) : ∃ x y, o1 = some x ∧ o2 = some y ∧ opO f o1 o2 = some (f x y) := by
  cases o1 with
  | none => cases h
  | some x =>
    cases o2 with
    | none => cases h
    | some y =>
      refine ⟨x, y, rfl, rfl, ?_⟩
      unfold opE capE at h
      unfold opO capF
      by_cases hf : nf (f x y) ≤ 2048
      · simp only [if_pos hf]
      · simp only [if_neg hf] at h; cases h
def pwE (n : Int) (oa ob oc od : Option Rat) : Int := match oa, ob, oc, od with
  | some a, some b, some c, some d => if a * d - b * c = 1 then (if n < 0 ∨ 4096 < n then countE n else powE n.toNat a b c d) else 1
  | _, _, _, _ => 1
/-- The four places of a power. -/
def pwO (j : Nat) (n : Int) (oa ob oc od : Option Rat) : Option Rat := match oa, ob, oc, od with
  | some a, some b, some c, some d => if a * d - b * c = 1 then (if n < 0 ∨ 4096 < n then none else (match j with | 0 => powOA n.toNat a b c d | 1 => powOB n.toNat a b c d | 2 => powOC n.toNat a b c d | _ => powOD n.toNat a b c d)) else none
  | _, _, _, _ => none
theorem power_c (n : Int) (v : Value) (oa ob oc od : Option Rat) (w : World) (h : AnyM w v oa ob oc od) :
    Calls Tryz.prog 35 #[v, .int .i64 n] w fun e w' => ∃ p, e = .returned (.tuple #[p, .int .i64 (pwE n oa ob oc od)]) ∧ Ext w w' ∧
      AnyM w' p (pwO 0 n oa ob oc od) (pwO 1 n oa ob oc od) (pwO 2 n oa ob oc od) (pwO 3 n oa ob oc od) := by
  by_cases hk : okM oa ob oc od = true
  · obtain ⟨a, ha⟩ : ∃ a, oa = some a := by cases oa with | none => exact absurd hk (by simp [okM]) | some a => exact ⟨a, rfl⟩
    obtain ⟨b, hb⟩ : ∃ b, ob = some b := by subst ha; cases ob with | none => exact absurd hk (by simp [okM]) | some a => exact ⟨a, rfl⟩
    obtain ⟨c, hc⟩ : ∃ c, oc = some c := by subst ha hb; cases oc with | none => exact absurd hk (by simp [okM]) | some a => exact ⟨a, rfl⟩
    obtain ⟨d, hd⟩ : ∃ d, od = some d := by subst ha hb hc; cases od with | none => exact absurd hk (by simp [okM]) | some a => exact ⟨a, rfl⟩
    subst ha hb hc hd
    have hdet : a * d - b * c = 1 := by simpa [okM] using hk
    unfold pwE pwO
    simp only [if_pos hdet]
    by_cases hn : n < 0 ∨ 4096 < n
    · simp only [if_pos hn]
      exact power_count n v _ _ _ _ w h hk hn
    · simp only [if_neg hn]
      obtain ⟨m, rfl⟩ : ∃ m : Nat, n = m := ⟨n.toNat, by omega⟩
      exact power_fine m v a b c d w h hk (by omega)
  · have hk2 : okM oa ob oc od = false := by simpa using hk
    have h2 := power_none n v oa ob oc od w h hk2
    have e1 : pwE n oa ob oc od = 1 := by
      cases oa <;> cases ob <;> cases oc <;> cases od <;> first | rfl | skip
      rename_i a b c d
      show (if a * d - b * c = 1 then _ else (1 : Int)) = 1
      rw [if_neg (by simpa [okM] using hk)]
    have e2 : ∀ j, pwO j n oa ob oc od = none := by
      intro j
      cases oa <;> cases ob <;> cases oc <;> cases od <;> first | rfl | skip
      rename_i a b c d
      show (if a * d - b * c = 1 then _ else (none : Option Rat)) = none
      rw [if_neg (by simpa [okM] using hk)]
    rw [e1, e2, e2, e2, e2]
    exact h2
theorem cheb_inv (x : Rat) (k : Nat) : (itR (x + x) k (0, 1)).2 * (itR (x + x) k (0, 1)).2 - (x + x) * (itR (x + x) k (0, 1)).1 * (itR (x + x) k (0, 1)).2 + (itR (x + x) k (0, 1)).1 * (itR (x + x) k (0, 1)).1 = 1 ∧
    (itR (x + x) k (x, 1)).2 = (itR (x + x) k (0, 1)).2 - x * (itR (x + x) k (0, 1)).1 ∧
    (itR (x + x) k (x, 1)).1 = (itR (x + x) k (0, 1)).1 - 2 * x * x * (itR (x + x) k (0, 1)).1 + x * (itR (x + x) k (0, 1)).2 := by
  induction k with
  | zero => refine ⟨?_, ?_, ?_⟩ <;> simp only [itR] <;> grind
  | succ k ih =>
    obtain ⟨h1, h2, h3⟩ := ih
    simp only [itR]
    generalize (itR (x + x) k (0, 1)).1 = p at *
    generalize (itR (x + x) k (0, 1)).2 = q at *
    generalize (itR (x + x) k (x, 1)).1 = r at *
    generalize (itR (x + x) k (x, 1)).2 = s at *
    refine ⟨?_, ?_, ?_⟩ <;> grind
theorem cheb_pell (x : Rat) (k : Nat) : chebT (k + 1) x * chebT (k + 1) x - (x * x - 1) * (chebU k x * chebU k x) = 1 := by
  obtain ⟨h1, h2, h3⟩ := cheb_inv x (k + 1)
  unfold chebT chebU
  have e : (itR (x + x) (k + 1) (0, 1)).1 = (itR (x + x) k (0, 1)).2 := rfl
  rw [← e]
  generalize (itR (x + x) (k + 1) (0, 1)).1 = p at *
  generalize (itR (x + x) (k + 1) (0, 1)).2 = q at *
  rw [h2]
  grind
theorem chebT_zero (x : Rat) : chebT 0 x = 1 := rfl
theorem chebT_one (x : Rat) : chebT 1 x = x := by
  unfold chebT
  simp only [itR]
  grind
theorem chebT_step (x : Rat) (k : Nat) : chebT (k + 2) x = (x + x) * chebT (k + 1) x - chebT k x := rfl
theorem chebT_add (x : Rat) : ∀ n c, chebT (c + n + n) x + chebT c x = 2 * chebT n x * chebT (c + n) x ∧ chebT (c + (n + 1) + (n + 1)) x + chebT c x = 2 * chebT (n + 1) x * chebT (c + (n + 1)) x := by
  intro n
  induction n with
  | zero =>
    intro c
    refine ⟨?_, ?_⟩
    · rw [chebT_zero]; simp only [Nat.add_zero]; grind
    · have := chebT_step x c
      rw [show c + (0 + 1) + (0 + 1) = c + 2 by omega, show c + (0 + 1) = c + 1 by omega, show 0 + 1 = 1 by omega, chebT_one]
      grind
  | succ n ih =>
    intro c
    refine ⟨(ih c).2, ?_⟩
    have h1 := (ih (c + 1)).2
    have h2 := (ih (c + 2)).1
    rw [show c + 1 + (n + 1) + (n + 1) = c + n + n + 3 by omega, show c + 1 + (n + 1) = c + n + 2 by omega] at h1
    rw [show c + 2 + n + n = c + n + n + 2 by omega, show c + 2 + n = c + n + 2 by omega] at h2
    rw [show c + (n + 1 + 1) + (n + 1 + 1) = c + n + n + 4 by omega, show c + (n + 1 + 1) = c + n + 2 by omega, show n + 1 + 1 = n + 2 by omega]
    have s1 := chebT_step x (c + n + n + 2)
    have s2 := chebT_step x n
    have s3 := chebT_step x c
    rw [show c + n + n + 2 + 2 = c + n + n + 4 by omega, show c + n + n + 2 + 1 = c + n + n + 3 by omega] at s1
    generalize chebT (c + n + n + 4) x = t4 at *
    generalize chebT (c + n + n + 3) x = t3 at *
    generalize chebT (c + n + n + 2) x = t2 at *
    generalize chebT (c + n + 2) x = u at *
    generalize chebT (n + 2) x = v2 at *
    generalize chebT (n + 1) x = v1 at *
    generalize chebT n x = v0 at *
    generalize chebT (c + 2) x = d2 at *
    generalize chebT (c + 1) x = d1 at *
    generalize chebT c x = d0 at *
    subst s2
    grind
theorem chebT_mul (x : Rat) (n : Nat) : ∀ k, chebT k (chebT n x) = chebT (n * k) x ∧ chebT (k + 1) (chebT n x) = chebT (n * (k + 1)) x := by
  intro k
  induction k with
  | zero => exact ⟨by rw [Nat.mul_zero, chebT_zero, chebT_zero], by rw [chebT_one, Nat.zero_add, Nat.mul_one]⟩
  | succ k ih =>
    refine ⟨ih.2, ?_⟩
    rw [show k + 1 + 1 = k + 2 by omega, chebT_step, ih.1, ih.2]
    have h := (chebT_add x n (n * k)).1
    rw [show n * k + n + n = n * (k + 2) by grind, show n * k + n = n * (k + 1) by grind] at h
    grind
end Go.Proofs.YtpmfohhpaoagfaaGreat
