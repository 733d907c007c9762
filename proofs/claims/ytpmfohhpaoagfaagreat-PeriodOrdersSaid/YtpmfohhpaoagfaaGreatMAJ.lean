/-
  law14: lives. law01: IntSize, FracSize, Lowest, FracCost. law01: MatrixCost, RayCost, Beyond, Whole, Trips: printed by tools/gen_cost.py. Regions that draw their order, in which one operation that changes no memory may come late, behind operations of the tail: no program. Printed by tools/gen_late.py out of XPre. PeriodPell, walked: printed by tools/gen_pell.py. What comes in, opened: a fraction, a matrix, a ray as data. Matrices and rays with limbs of whatever number. What comes in, opened: a matrix, a ray as data. polestarref01: trim, signed, cmp.
-/
import Derived.Test.YtpmfohhpaoagfaaGreatMAI
import Derived.Test.YtpmfohhpaoagfaaGreatMAG
import Derived.Test.YtpmfohhpaoagfaaGreatMAA
import Derived.Test.YtpmfohhpaoagfaaGreatMAH
import Derived.ProofKit
import Derived.OpenShut
import Derived.Lib.SmallJoins
import Derived.Carry
import Derived.Deep.Slices
import Derived.SizedLaws
namespace Go.Proofs.YtpmfohhpaoagfaaGreat
open Go Go.RowKit Go.Proofs
theorem st_anyM {ss : List FSpec} (oa ob oc od : Option Rat) (h : StableAll Ext ss) : StableAll Ext (.pred (fun W v => AnyM W v oa ob oc od) :: ss) := ⟨fun _ _ _ e h => AnyM.ext h e, h⟩
theorem nf_small (x : Rat) (h : x.num.natAbs < 4294967296) (h' : x.den < 4294967296) : nf x ≤ 2048 := by
  unfold nf
  exact Nat.max_le.2 ⟨Nat.le_trans (nl_small h) (by decide), Nat.le_trans (nl_small (by rw [Int.natAbs_natCast]; exact h')) (by decide)⟩
theorem fine_small {a b c d : Rat} (ha : nf a ≤ 2048) (hb : nf b ≤ 2048) (hc : nf c ≤ 2048) (hd : nf d ≤ 2048) : fine4 a b c d = true := by
  unfold fine4
  simp [ha, hb, hc, hd]
theorem lives_u : chebU 3 2 = 56 := by kernel_rfl
theorem lives_t : chebT 3 2 = 26 := by kernel_rfl
theorem lives_a : pwA 3 2 1 = 13 := by kernel_rfl
theorem lives_b : pwX 3 2 1 1 = 8 := by kernel_rfl
theorem lives_d : pwA 3 1 2 = 5 := by kernel_rfl
theorem lives_fine : fine4 13 8 8 5 = true := fine_small (nf_small _ (of_decide_eq_true (by kernel_rfl)) (of_decide_eq_true (by kernel_rfl))) (nf_small _ (of_decide_eq_true (by kernel_rfl)) (of_decide_eq_true (by kernel_rfl))) (nf_small _ (of_decide_eq_true (by kernel_rfl)) (of_decide_eq_true (by kernel_rfl))) (nf_small _ (of_decide_eq_true (by kernel_rfl)) (of_decide_eq_true (by kernel_rfl)))
theorem lives_cheb (w : World) (v : Value) (h : AnyF w v (some (Rat.divInt 2 1))) :
    Calls Tryz.prog 33 #[.int .i64 3, v] w fun e w' => ∃ u t, e = .returned (.tuple #[u, t, .int .i64 0]) ∧ Ext w w' ∧ AnyF w' u (some 56) ∧ AnyF w' t (some 26) := by
  have h2 := cheb_fine 3 2 v w h (by omega)
  have hn : nf (56 : Rat) ≤ 2048 ∧ nf (26 : Rat) ≤ 2048 := ⟨nf_small _ (of_decide_eq_true (by kernel_rfl)) (of_decide_eq_true (by kernel_rfl)), nf_small _ (of_decide_eq_true (by kernel_rfl)) (of_decide_eq_true (by kernel_rfl))⟩
  unfold chebE chebOU chebOT at h2
  rw [lives_u, lives_t, if_pos hn, if_pos hn, if_pos hn] at h2
  exact h2
theorem lives_power (w : World) (v : Value) (h : AnyM w v (some (Rat.divInt 2 1)) (some (Rat.divInt 1 1)) (some (Rat.divInt 1 1)) (some (Rat.divInt 1 1))) :
    Calls Tryz.prog 35 #[v, .int .i64 3] w fun e w' => ∃ p, e = .returned (.tuple #[p, .int .i64 0]) ∧ Ext w w' ∧ AnyM w' p (some 13) (some 8) (some 8) (some 5) := by
  have h2 := power_fine 3 v 2 1 1 1 w h (by kernel_rfl) (by omega)
  unfold powE powOA powOB powOC powOD fineE fineO at h2
  rw [lives_a, lives_b, lives_d, lives_fine] at h2
  exact h2
theorem lives_order (w : World) (v : Value) (h : AnyM w v (some (Rat.divInt 0 1)) (some (Rat.divInt 1 1)) (some (Rat.divInt (-1) 1)) (some (Rat.divInt 0 1))) :
    Calls Tryz.prog 9 #[v] w fun e w' => e = .returned (.tuple #[.int .i64 4, .int .i64 0]) ∧ Ext w w' := by
  have h2 := order_c v _ _ _ _ w h
  have e1 : ordO (some (Rat.divInt 0 1)) (some (Rat.divInt 1 1)) (some (Rat.divInt (-1) 1)) (some (Rat.divInt 0 1)) = 4 := by kernel_rfl
  have e2 : ordE (some (Rat.divInt 0 1)) (some (Rat.divInt 1 1)) (some (Rat.divInt (-1) 1)) (some (Rat.divInt 0 1)) = 0 := by kernel_rfl
  rw [e1, e2] at h2
  exact h2
set_option maxRecDepth 100000 in
set_option maxHeartbeats 3200000 in
theorem lives_c (w : World) : Calls Tryz.prog 15 #[] w fun e w' => e = .returned (.bool true) ∧ Ext w w' := by
  have q1 := mkHid (fun w => whole_f 2 1 w (by omega) (by omega) (by omega) (by omega) (by omega))
  have q2 := mkHid (fun w v h => lives_cheb w v h)
  have q3 := mkHid (fun w => matrix_f 2 1 1 1 w (by omega) (by omega) (by omega) (by omega) (by omega) (by omega) (by omega) (by omega))
  have q4 := mkHid (fun w v h => lives_power w v h)
  have q5 := mkHid (fun w => matrix_f 0 1 (-1) 0 w (by omega) (by omega) (by omega) (by omega) (by omega) (by omega) (by omega) (by omega))
  have q6 := mkHid (fun w v h => lives_order w v h)
  go_enter Tryz.func15, Tryz.ntmps15
  go_wp2_with fail
  refine (q1.out _).mono ?_
  rintro e w1 ⟨v1, rfl, hE1, hv1⟩
  have hE := mkHid hE1
  replace hv1 := mkHid hv1
  clear hE1 q1
  go_wp2_with fail
  refine (q2.out w1 _ hv1.out).mono ?_
  rintro e w2 ⟨u, t, rfl, hE2, hu, ht⟩
  replace hE := mkHid (hE.out.trans hE2)
  clear hE2 hv1 q2
  obtain ⟨A1, A2, A3, A4, A5, A6, A7, A8, rfl⟩ := hu.shape
  obtain ⟨B1, B2, B3, B4, B5, B6, B7, B8, rfl⟩ := ht.shape
  have hx := ((Ext.refl w2).al (.cells #[.bool A1, .slice A2 A3 A4, .bool A5, .slice A6 A7 A8] 26)).al (.cells #[.bool B1, .slice B2 B3 B4, .bool B5, .slice B6 B7 B8] 26)
  have zu := (heap_alloc_old (w2.alloc (.cells #[.bool A1, .slice A2 A3 A4, .bool A5, .slice A6 A7 A8] 26)) (.cells #[.bool B1, .slice B2 B3 B4, .bool B5, .slice B6 B7 B8] 26) (r := w2.heap.size) (by simp)).trans (heap_alloc_new _ _)
  have zt := heap_at (w2.alloc (.cells #[.bool A1, .slice A2 A3 A4, .bool A5, .slice A6 A7 A8] 26)) (.cells #[.bool B1, .slice B2 B3 B4, .bool B5, .slice B6 B7 B8] 26) (w2.heap.size + 1) (by simp)
  replace hu := hu.ext hx
  replace ht := ht.ext hx
  replace hE := hE.out.trans hx
  clear hx
  obtain ⟨w3, hw3⟩ : ∃ w3, w3 = (w2.alloc (.cells #[.bool A1, .slice A2 A3 A4, .bool A5, .slice A6 A7 A8] 26)).alloc (.cells #[.bool B1, .slice B2 B3 B4, .bool B5, .slice B6 B7 B8] 26) := ⟨_, rfl⟩
  rw [← hw3] at hu ht hE zu zt
  obtain ⟨gu, hgu⟩ : ∃ gu, gu = w2.heap.size := ⟨_, rfl⟩
  rw [← hgu] at zu zt
  replace hu := mkHid hu
  replace ht := mkHid ht
  replace hE := mkHid hE
  replace zu := mkHid zu
  replace zt := mkHid zt
  replace hw3 := mkHid hw3
  go_wp2_with fail
  rw [← hgu, ← hw3.out]
  clear hw3 hgu
  refine (q3.out w3).mono ?_
  rintro e w4 ⟨v4, rfl, hE4, hv4⟩
  replace hE := mkHid (hE.out.trans hE4)
  have hX := mkHid hE4
  replace hv4 := mkHid hv4
  clear hE4 q3
  go_wp2_with fail
  refine (q4.out w4 _ hv4.out).mono ?_
  rintro e w5 ⟨p, rfl, hE5, hp⟩
  replace hE := mkHid (hE.out.trans hE5)
  replace hX := mkHid (hX.out.trans hE5)
  clear hE5 hv4 q4
  have hp' := hp
  obtain ⟨P1, P2, P3, P4, P5, P6, P7, P8, Q1, Q2, Q3, Q4, Q5, Q6, Q7, Q8, S1, S2, S3, S4, S5, S6, S7, S8, T1, T2, T3, T4, T5, T6, T7, T8, rfl, -⟩ := hp'
  have hx := (Ext.refl w5).al (.cells #[.bool P1, .slice P2 P3 P4, .bool P5, .slice P6 P7 P8, .bool Q1, .slice Q2 Q3 Q4, .bool Q5, .slice Q6 Q7 Q8, .bool S1, .slice S2 S3 S4, .bool S5, .slice S6 S7 S8, .bool T1, .slice T2 T3 T4, .bool T5, .slice T6 T7 T8] 28)
  have zp := heap_alloc_new w5 (.cells #[.bool P1, .slice P2 P3 P4, .bool P5, .slice P6 P7 P8, .bool Q1, .slice Q2 Q3 Q4, .bool Q5, .slice Q6 Q7 Q8, .bool S1, .slice S2 S3 S4, .bool S5, .slice S6 S7 S8, .bool T1, .slice T2 T3 T4, .bool T5, .slice T6 T7 T8] 28)
  replace hp := hp.ext hx
  replace hE := hE.out.trans hx
  replace hX := hX.out.trans hx
  clear hx
  obtain ⟨w6, hw6⟩ : ∃ w6, w6 = w5.alloc (.cells #[.bool P1, .slice P2 P3 P4, .bool P5, .slice P6 P7 P8, .bool Q1, .slice Q2 Q3 Q4, .bool Q5, .slice Q6 Q7 Q8, .bool S1, .slice S2 S3 S4, .bool S5, .slice S6 S7 S8, .bool T1, .slice T2 T3 T4, .bool T5, .slice T6 T7 T8] 28) := ⟨_, rfl⟩
  rw [← hw6] at hp hE hX zp
  obtain ⟨gp, hgp⟩ : ∃ gp, gp = w5.heap.size := ⟨_, rfl⟩
  rw [← hgp] at zp
  replace hp := mkHid hp
  replace hE := mkHid hE
  replace hX := mkHid hX
  replace zp := mkHid zp
  replace hw6 := mkHid hw6
  go_wp2_with fail
  rw [← hgp, ← hw6.out]
  clear hw6 hgp
  refine (q5.out w6).mono ?_
  rintro e w7 ⟨v7, rfl, hE7, hv7⟩
  replace hv7 := mkHid hv7
  have hY := mkHid hE7
  clear hE7
  go_wp2_with fail
  refine (q6.out w7 _ hv7.out).mono ?_
  rintro e w8 ⟨rfl, hE8⟩
  replace hY := mkHid (hY.out.trans hE8)
  replace hX := mkHid (hX.out.trans hY.out)
  replace hE := mkHid (hE.out.trans hY.out)
  clear hE8 hv7 q6
  have zu8 := mkHid (hX.out.blk zu.out)
  have zt8 := mkHid (hX.out.blk zt.out)
  have zp8 := mkHid (hY.out.blk zp.out)
  replace hu := mkHid (hu.out.ext hX.out)
  replace ht := mkHid (ht.out.ext hX.out)
  replace hp := mkHid (hp.out.ext hY.out)
  clear zu zt zp hX hY q5
  go_wp2_with fail
  have m1 := mkHid (fun w => whole_f 56 1 w (by omega) (by omega) (by omega) (by omega) (by omega))
  have m2 := mkHid (fun w => whole_f 26 1 w (by omega) (by omega) (by omega) (by omega) (by omega))
  have m3 := mkHid (fun w => matrix_f 13 8 8 5 w (by omega) (by omega) (by omega) (by omega) (by omega) (by omega) (by omega) (by omega))
  rw [show Rat.divInt 56 1 = 56 by kernel_rfl] at m1
  rw [show Rat.divInt 26 1 = 26 by kernel_rfl] at m2
  rw [show Rat.divInt 13 1 = 13 by kernel_rfl, show Rat.divInt 8 1 = 8 by kernel_rfl, show Rat.divInt 5 1 = 5 by kernel_rfl] at m3
  have s1 := mkHid (fun w v1 v2 h1 h2 => sameFrac_f v1 v2 56 56 w h1 h2)
  have s2 := mkHid (fun w v1 v2 h1 h2 => sameFrac_f v1 v2 26 26 w h1 h2)
  have s3 := mkHid (fun w v1 v2 h1 h2 => sameMatrix_f v1 v2 13 8 8 5 13 8 8 5 w h1 h2)
  rw [decide_eq_true (rfl : (56 : Rat) = 56)] at s1
  rw [decide_eq_true (rfl : (26 : Rat) = 26)] at s2
  rw [decide_eq_true (show (13 : Rat) = 13 ∧ (8 : Rat) = 8 ∧ (8 : Rat) = 8 ∧ (5 : Rat) = 5 from ⟨rfl, rfl, rfl, rfl⟩)] at s3
  have u0 : ∀ W, Ext w8 W → W.cell? ⟨gu, 0, none⟩ = some (.bool A1) := fun W e => by simp [World.cell?, e.blk zu8.out]
  have u1 : ∀ W, Ext w8 W → W.cell? ⟨gu, 1, none⟩ = some (.slice A2 A3 A4) := fun W e => by simp [World.cell?, e.blk zu8.out]
  have u2 : ∀ W, Ext w8 W → W.cell? ⟨gu, 2, none⟩ = some (.bool A5) := fun W e => by simp [World.cell?, e.blk zu8.out]
  have u3 : ∀ W, Ext w8 W → W.cell? ⟨gu, 3, none⟩ = some (.slice A6 A7 A8) := fun W e => by simp [World.cell?, e.blk zu8.out]
  have t0 : ∀ W, Ext w8 W → W.cell? ⟨gu + 1, 0, none⟩ = some (.bool B1) := fun W e => by simp [World.cell?, e.blk zt8.out]
  have t1 : ∀ W, Ext w8 W → W.cell? ⟨gu + 1, 1, none⟩ = some (.slice B2 B3 B4) := fun W e => by simp [World.cell?, e.blk zt8.out]
  have t2 : ∀ W, Ext w8 W → W.cell? ⟨gu + 1, 2, none⟩ = some (.bool B5) := fun W e => by simp [World.cell?, e.blk zt8.out]
  have t3 : ∀ W, Ext w8 W → W.cell? ⟨gu + 1, 3, none⟩ = some (.slice B6 B7 B8) := fun W e => by simp [World.cell?, e.blk zt8.out]
  have p0 : ∀ W, Ext w8 W → W.cell? ⟨gp, 0, none⟩ = some (.bool P1) := fun W e => by simp [World.cell?, e.blk zp8.out]
  have p1 : ∀ W, Ext w8 W → W.cell? ⟨gp, 1, none⟩ = some (.slice P2 P3 P4) := fun W e => by simp [World.cell?, e.blk zp8.out]
  have p2 : ∀ W, Ext w8 W → W.cell? ⟨gp, 2, none⟩ = some (.bool P5) := fun W e => by simp [World.cell?, e.blk zp8.out]
  have p3 : ∀ W, Ext w8 W → W.cell? ⟨gp, 3, none⟩ = some (.slice P6 P7 P8) := fun W e => by simp [World.cell?, e.blk zp8.out]
  have p4 : ∀ W, Ext w8 W → W.cell? ⟨gp, 4, none⟩ = some (.bool Q1) := fun W e => by simp [World.cell?, e.blk zp8.out]
  have p5 : ∀ W, Ext w8 W → W.cell? ⟨gp, 5, none⟩ = some (.slice Q2 Q3 Q4) := fun W e => by simp [World.cell?, e.blk zp8.out]
  have p6 : ∀ W, Ext w8 W → W.cell? ⟨gp, 6, none⟩ = some (.bool Q5) := fun W e => by simp [World.cell?, e.blk zp8.out]
  have p7 : ∀ W, Ext w8 W → W.cell? ⟨gp, 7, none⟩ = some (.slice Q6 Q7 Q8) := fun W e => by simp [World.cell?, e.blk zp8.out]
  have p8 : ∀ W, Ext w8 W → W.cell? ⟨gp, 8, none⟩ = some (.bool S1) := fun W e => by simp [World.cell?, e.blk zp8.out]
  have p9 : ∀ W, Ext w8 W → W.cell? ⟨gp, 9, none⟩ = some (.slice S2 S3 S4) := fun W e => by simp [World.cell?, e.blk zp8.out]
  have p10 : ∀ W, Ext w8 W → W.cell? ⟨gp, 10, none⟩ = some (.bool S5) := fun W e => by simp [World.cell?, e.blk zp8.out]
  have p11 : ∀ W, Ext w8 W → W.cell? ⟨gp, 11, none⟩ = some (.slice S6 S7 S8) := fun W e => by simp [World.cell?, e.blk zp8.out]
  have p12 : ∀ W, Ext w8 W → W.cell? ⟨gp, 12, none⟩ = some (.bool T1) := fun W e => by simp [World.cell?, e.blk zp8.out]
  have p13 : ∀ W, Ext w8 W → W.cell? ⟨gp, 13, none⟩ = some (.slice T2 T3 T4) := fun W e => by simp [World.cell?, e.blk zp8.out]
  have p14 : ∀ W, Ext w8 W → W.cell? ⟨gp, 14, none⟩ = some (.bool T5) := fun W e => by simp [World.cell?, e.blk zp8.out]
  have p15 : ∀ W, Ext w8 W → W.cell? ⟨gp, 15, none⟩ = some (.slice T6 T7 T8) := fun W e => by simp [World.cell?, e.blk zp8.out]
  apply region_ext [.val _, .val _, .val _, .val _, .val _, .val _, .val _, .val _, .val _, .val _, .val _, .val _, .val _, .val _, .val _, .val _, .pred (fun W v => AnyF W v (some 56)), .val _, .val _, .val _, .val _, .pred (fun W v => AnyF W v (some 26)), .val _, .val _, .val _, .val _, .pred (fun W v => AnyM W v (some 13) (some 8) (some 8) (some 5)), .val _, .val _] (by kernel_rfl) (stable_vals _ (stable_vals _ (stable_vals _ (stable_vals _ (stable_vals _ (stable_vals _ (stable_vals _ (stable_vals _ (stable_vals _ (stable_vals _ (stable_vals _ (stable_vals _ (stable_vals _ (stable_vals _ (stable_vals _ (stable_vals _ (st_any _ (stable_vals _ (stable_vals _ (stable_vals _ (stable_vals _ (st_any _ (stable_vals _ (stable_vals _ (stable_vals _ (stable_vals _ (st_anyM _ _ _ _ (stable_vals _ (stable_vals _ trivial)))))))))))))))))))))))))))))
  iterate 16 (refine ⟨fun W hW _ => by go_simp; first | exact ⟨Ext.refl _, rfl⟩ | rfl, ?_⟩)
  refine ⟨fun W hW _ => ?a16, fun x16 => ⟨fun W hW hF => ?a17, ?_⟩⟩
  case a16 =>
    go_simp
    refine (m1.out W).mono ?_
    rintro e w' ⟨v, rfl, e1, e2⟩
    exact ⟨v, rfl, e1, e2⟩
  case a17 =>
    have dd : AnyF W x16 (some 56) := hF.1 (by kernel_rfl)
    replace dd := mkHid dd
    clear hF
    go_simp
    refine (s1.out W _ _ (hu.out.ext hW) dd.out).mono ?_
    rintro e w' ⟨rfl, e1⟩
    exact ⟨rfl, e1⟩
  iterate 3 (refine ⟨fun W hW _ => by go_simp; first | exact ⟨Ext.refl _, rfl⟩ | rfl, ?_⟩)
  refine ⟨fun W hW _ => ?a21, fun x21 => ⟨fun W hW hF => ?a22, ?_⟩⟩
  case a21 =>
    go_simp
    refine (m2.out W).mono ?_
    rintro e w' ⟨v, rfl, e1, e2⟩
    exact ⟨v, rfl, e1, e2⟩
  case a22 =>
    have dd : AnyF W x21 (some 26) := hF.1 (by kernel_rfl)
    replace dd := mkHid dd
    clear hF
    go_simp
    refine (s2.out W _ _ (ht.out.ext hW) dd.out).mono ?_
    rintro e w' ⟨rfl, e1⟩
    exact ⟨rfl, e1⟩
  iterate 3 (refine ⟨fun W hW _ => by go_simp; first | exact ⟨Ext.refl _, rfl⟩ | rfl, ?_⟩)
  refine ⟨fun W hW _ => ?a26, fun x26 => ⟨fun W hW hF => ?a27, ?_⟩⟩
  case a26 =>
    go_simp
    refine (m3.out W).mono ?_
    rintro e w' ⟨v, rfl, e1, e2⟩
    exact ⟨v, rfl, e1, e2⟩
  case a27 =>
    have dd : AnyM W x26 (some 13) (some 8) (some 8) (some 5) := hF.1 (by kernel_rfl)
    replace dd := mkHid dd
    clear hF
    go_simp
    refine (s3.out W _ _ (hp.out.ext hW) dd.out).mono ?_
    rintro e w' ⟨rfl, e1⟩
    exact ⟨rfl, e1⟩
  refine ⟨fun W hW _ => by go_simp; first | exact ⟨Ext.refl _, rfl⟩ | rfl, ?_⟩
  intro W hW _
  replace hE := mkHid (hE.out.trans hW)
  clear hW u0 u1 u2 u3 t0 t1 t2 t3 p0 p1 p2 p3 p4 p5 p6 p7 p8 p9 p10 p11 p12 p13 p14 p15
  go_simp
  go_wp2_with fail
  go_ret
  exact ⟨rfl, hE.out⟩
end Go.Proofs.YtpmfohhpaoagfaaGreat
namespace Go.Proofs.YtpmfohhpaoagfaaGreat
open Go Go.RowKit Go.Proofs
set_option maxHeartbeats 1600000 in
theorem intSize_c (b : Bool) (a : Option Addr) (n c : Nat) (w : World) (hn : n ≤ 140737488355328) :
    Calls Tryz.prog 73 #[.agg #[.bool b, .slice a n c]] w fun e w' => e = .returned (.int .i64 (1 + n)) ∧ Ext w w' := by
  have FE := mkHid ((Ext.refl w).al (.cells #[.bool b, .slice a n c] 24))
  go_enter Tryz.func73, Tryz.ntmps73
  go_wp2_with fail
  go_ret
  exact ⟨by trivial, FE.out⟩
def lowV (n m : Nat) : Int := Int.tdiv ((min (n : Int) 1048576) * (min (m : Int) 1048576)) 16 * 1024
theorem lowV_b (n m : Nat) : 0 ≤ lowV n m ∧ lowV n m ≤ 70368744177664 := by
  unfold lowV
  obtain ⟨x, hx⟩ : ∃ x : Int, x = min (n : Int) 1048576 := ⟨_, rfl⟩
  obtain ⟨y, hy⟩ : ∃ y : Int, y = min (m : Int) 1048576 := ⟨_, rfl⟩
  rw [← hx, ← hy]
  have h1 : 0 ≤ x ∧ x ≤ 1048576 := by omega
  have h2 : 0 ≤ y ∧ y ≤ 1048576 := by omega
  have h3 : 0 ≤ x * y := Int.mul_nonneg h1.1 h2.1
  have h4 : x * y ≤ 1048576 * 1048576 := Int.mul_le_mul h1.2 h2.2 h2.1 (by omega)
  rw [Int.tdiv_eq_ediv_of_nonneg h3]
  omega
theorem low_wrap (n m : Nat) : RowKit.wrap64 (RowKit.wrap64 ((RowKit.wrap64 (min (n : Int) 1048576 * min (m : Int) 1048576)).tdiv 16) * 1024) = lowV n m := by
  have hb := lowV_b n m
  unfold lowV at *
  have h1 : 0 ≤ min (n : Int) 1048576 ∧ min (n : Int) 1048576 ≤ 1048576 := by omega
  have h2 : 0 ≤ min (m : Int) 1048576 ∧ min (m : Int) 1048576 ≤ 1048576 := by omega
  generalize min (n : Int) 1048576 = x at *
  generalize min (m : Int) 1048576 = y at *
  have h3 : 0 ≤ x * y := Int.mul_nonneg h1.1 h2.1
  have h4 : x * y ≤ 1048576 * 1048576 := Int.mul_le_mul h1.2 h2.2 h2.1 (by omega)
  have e : (x * y).tdiv 16 = x * y / 16 := Int.tdiv_eq_ediv_of_nonneg h3
  rw [e] at hb ⊢
  rw [IntWalk.wrap64_in (x * y) (by omega), e, IntWalk.wrap64_in (x * y / 16) (by omega), IntWalk.wrap64_in _ (by omega)]
set_option maxHeartbeats 1600000 in
theorem lowest_c (b b' : Bool) (a a' : Option Addr) (n c n' c' : Nat) (w : World) (_hn : n ≤ 140737488355328) (_hn' : n' ≤ 140737488355328) :
    Calls Tryz.prog 40 #[.agg #[.bool b, .slice a n c], .agg #[.bool b', .slice a' n' c']] w fun e w' => e = .returned (.int .i64 (lowV n n')) ∧ Ext w w' := by
  have FE := mkHid (((Ext.refl w).al (.cells #[.bool b, .slice a n c] 24)).al (.cells #[.bool b', .slice a' n' c'] 24))
  go_enter Tryz.func40, Tryz.ntmps40
  go_wp2_with fail
  go_ret
  exact ⟨ret1_eq (low_wrap n n'), FE.out⟩
set_option maxHeartbeats 1600000 in
theorem fracSize_c (b b' : Bool) (a a' : Option Addr) (n c n' c' : Nat) (w : World) (hn : n ≤ 140737488355328) (hn' : n' ≤ 140737488355328) :
    Calls Tryz.prog 39 #[.agg #[.bool b, .slice a n c, .bool b', .slice a' n' c']] w fun e w' => e = .returned (.int .i64 (1 + n + (1 + n'))) ∧ Ext w w' := by
  have k1 := mkHid (fun w => intSize_c b a n c w hn)
  have k2 := mkHid (fun w => intSize_c b' a' n' c' w hn')
  go_enter Tryz.func39, Tryz.ntmps39
  go_wp2_with fail
  obtain ⟨wb, hwb⟩ : ∃ wb, wb = w.alloc (.cells #[.bool b, .slice a n c, .bool b', .slice a' n' c'] 26) := ⟨_, rfl⟩
  have hE : Ext w wb := by rw [hwb]; exact (Ext.refl w).al _
  have c0 : ∀ W, Ext wb W → W.cell? ⟨w.heap.size, 0, none⟩ = some (.bool b) := fun W e => e.cell (by rw [hwb]; go_simp)
  have c1 : ∀ W, Ext wb W → W.cell? ⟨w.heap.size, 1, none⟩ = some (.slice a n c) := fun W e => e.cell (by rw [hwb]; go_simp)
  have c2 : ∀ W, Ext wb W → W.cell? ⟨w.heap.size, 2, none⟩ = some (.bool b') := fun W e => e.cell (by rw [hwb]; go_simp)
  have c3 : ∀ W, Ext wb W → W.cell? ⟨w.heap.size, 3, none⟩ = some (.slice a' n' c') := fun W e => e.cell (by rw [hwb]; go_simp)
  rw [← hwb]
  replace hE := mkHid hE
  clear hwb
  apply region_ext [.val _, .val _, .val (.int .i64 (1 + n)), .val _, .val _, .val (.int .i64 (1 + n')), .val (.int .i64 (1 + n + (1 + n')))] (by kernel_rfl) (stable_vals _ (stable_vals _ (stable_vals _ (stable_vals _ (stable_vals _ (stable_vals _ (stable_vals _ trivial)))))))
  iterate 2 (refine ⟨fun W hW _ => by go_simp; exact ⟨Ext.refl _, rfl⟩, ?_⟩)
  refine ⟨fun W hW _ => ?g2, ?_⟩
  case g2 =>
    go_simp
    refine (k1.out W).mono ?_
    rintro e w' ⟨rfl, h1⟩
    exact ⟨rfl, h1⟩
  iterate 2 (refine ⟨fun W hW _ => by go_simp; exact ⟨Ext.refl _, rfl⟩, ?_⟩)
  refine ⟨fun W hW _ => ?g5, ⟨fun W hW _ => by go_simp; exact ⟨Ext.refl _, by rw [IntKind.wrap_i64]; omega⟩, ?_⟩⟩
  case g5 =>
    go_simp
    refine (k2.out W).mono ?_
    rintro e w' ⟨rfl, h1⟩
    exact ⟨rfl, h1⟩
  intro W hW _
  clear c0 c1 c2 c3
  replace hE := mkHid (hE.out.trans hW)
  clear hW
  go_simp
  go_wp2_with fail
  go_ret
  exact ⟨by trivial, hE.out⟩
/-- What a fraction of these lengths costs. -/
def costV (n n' : Nat) : Int := 1 + n + (1 + n') + lowV n n'
set_option maxHeartbeats 1600000 in
theorem fracCost_c (b b' : Bool) (a a' : Option Addr) (n c n' c' : Nat) (w : World) (hn : n ≤ 140737488355328) (hn' : n' ≤ 140737488355328) :
    Calls Tryz.prog 16 #[.agg #[.bool b, .slice a n c, .bool b', .slice a' n' c']] w fun e w' => e = .returned (.int .i64 (costV n n')) ∧ Ext w w' := by
  have k1 := mkHid (fun w => fracSize_c b b' a a' n c n' c' w hn hn')
  have k2 := mkHid (fun w => lowest_c b b' a a' n c n' c' w hn hn')
  obtain ⟨S, hS⟩ : ∃ S : Int, S = 1 + n + (1 + n') := ⟨_, rfl⟩
  have hb := lowV_b n n'
  unfold costV
  rw [← hS] at k1
  rw [← hS]
  generalize lowV n n' = L at *
  have hS0 : 0 ≤ S ∧ S ≤ 562949953421312 := by omega
  clear hS hn hn'
  obtain ⟨hb1, hb2⟩ := hb
  obtain ⟨hS1, hS2⟩ := hS0
  go_enter Tryz.func16, Tryz.ntmps16
  go_wp2_with fail
  obtain ⟨wb, hwb⟩ : ∃ wb, wb = w.alloc (.cells #[.bool b, .slice a n c, .bool b', .slice a' n' c'] 26) := ⟨_, rfl⟩
  have hE : Ext w wb := by rw [hwb]; exact (Ext.refl w).al _
  have c0 : ∀ W, Ext wb W → W.cell? ⟨w.heap.size, 0, none⟩ = some (.bool b) := fun W e => e.cell (by rw [hwb]; go_simp)
  have c1 : ∀ W, Ext wb W → W.cell? ⟨w.heap.size, 1, none⟩ = some (.slice a n c) := fun W e => e.cell (by rw [hwb]; go_simp)
  have c2 : ∀ W, Ext wb W → W.cell? ⟨w.heap.size, 2, none⟩ = some (.bool b') := fun W e => e.cell (by rw [hwb]; go_simp)
  have c3 : ∀ W, Ext wb W → W.cell? ⟨w.heap.size, 3, none⟩ = some (.slice a' n' c') := fun W e => e.cell (by rw [hwb]; go_simp)
  rw [← hwb]
  replace hE := mkHid hE
  clear hwb
  apply region_ext [.val _, .val (.int .i64 S), .val _, .val _, .val _, .val _, .val (.int .i64 L), .val (.int .i64 (S + L))] (by kernel_rfl) (stable_vals _ (stable_vals _ (stable_vals _ (stable_vals _ (stable_vals _ (stable_vals _ (stable_vals _ (stable_vals _ trivial))))))))
  refine ⟨fun W hW _ => by go_simp; exact ⟨Ext.refl _, rfl⟩, ⟨fun W hW _ => ?g1, ?_⟩⟩
  case g1 =>
    go_simp
    refine (k1.out W).mono ?_
    rintro e w' ⟨rfl, h1⟩
    exact ⟨rfl, h1⟩
  iterate 4 (refine ⟨fun W hW _ => by go_simp; exact ⟨Ext.refl _, rfl⟩, ?_⟩)
  refine ⟨fun W hW _ => ?g5, ⟨fun W hW _ => by go_simp; exact ⟨Ext.refl _, by rw [IntKind.wrap_i64]; omega⟩, ?_⟩⟩
  case g5 =>
    go_simp
    refine (k2.out W).mono ?_
    rintro e w' ⟨rfl, h1⟩
    exact ⟨rfl, h1⟩
  intro W hW _
  clear c0 c1 c2 c3
  replace hE := mkHid (hE.out.trans hW)
  clear hW
  go_simp
  go_wp2_with fail
  go_ret
  exact ⟨by trivial, hE.out⟩
end Go.Proofs.YtpmfohhpaoagfaaGreat
namespace Go.Proofs.YtpmfohhpaoagfaaGreat
open Go Go.RowKit Go.Proofs
theorem costV_b (n m : Nat) (hn : n ≤ 140737488355328) (hm : m ≤ 140737488355328) : 0 ≤ costV n m ∧ costV n m ≤ 562949953421312 ∧ (n : Int) ≤ costV n m ∧ (m : Int) ≤ costV n m := by
  have := lowV_b n m
  unfold costV
  omega

set_option maxHeartbeats 1600000 in
theorem matrixCost_c (Ab : Bool) (Aa : Option Addr) (nA Ac : Nat) (Ae : Bool) (Ad : Option Addr) (mA Af : Nat) (Bb : Bool) (Ba : Option Addr) (nB Bc : Nat) (Be : Bool) (Bd : Option Addr) (mB Bf : Nat) (Cb : Bool) (Ca : Option Addr) (nC Cc : Nat) (Ce : Bool) (Cd : Option Addr) (mC Cf : Nat) (Db : Bool) (Da : Option Addr) (nD Dc : Nat) (De : Bool) (Dd : Option Addr) (mD Df : Nat) (w : World) (hnA : nA ≤ 140737488355328) (hmA : mA ≤ 140737488355328) (hnB : nB ≤ 140737488355328) (hmB : mB ≤ 140737488355328) (hnC : nC ≤ 140737488355328) (hmC : mC ≤ 140737488355328) (hnD : nD ≤ 140737488355328) (hmD : mD ≤ 140737488355328) :
    Calls Tryz.prog 5 #[.agg #[.bool Ab, .slice Aa nA Ac, .bool Ae, .slice Ad mA Af, .bool Bb, .slice Ba nB Bc, .bool Be, .slice Bd mB Bf, .bool Cb, .slice Ca nC Cc, .bool Ce, .slice Cd mC Cf, .bool Db, .slice Da nD Dc, .bool De, .slice Dd mD Df]] w fun e w' => e = .returned (.int .i64 (costV nA mA + costV nB mB + costV nC mC + costV nD mD)) ∧ Ext w w' := by
  have kA := mkHid (fun w => fracCost_c Ab Ae Aa Ad nA Ac mA Af w hnA hmA)
  obtain ⟨pA, qA, -⟩ := costV_b nA mA hnA hmA
  have kB := mkHid (fun w => fracCost_c Bb Be Ba Bd nB Bc mB Bf w hnB hmB)
  obtain ⟨pB, qB, -⟩ := costV_b nB mB hnB hmB
  have kC := mkHid (fun w => fracCost_c Cb Ce Ca Cd nC Cc mC Cf w hnC hmC)
  obtain ⟨pC, qC, -⟩ := costV_b nC mC hnC hmC
  have kD := mkHid (fun w => fracCost_c Db De Da Dd nD Dc mD Df w hnD hmD)
  obtain ⟨pD, qD, -⟩ := costV_b nD mD hnD hmD
  generalize costV nA mA = CA at *
  generalize costV nB mB = CB at *
  generalize costV nC mC = CC at *
  generalize costV nD mD = CD at *
  clear hnA hmA hnB hmB hnC hmC hnD hmD
  go_enter Tryz.func5, Tryz.ntmps5
  go_wp2_with fail
  obtain ⟨wb, hwb⟩ : ∃ wb, wb = w.alloc (.cells #[.bool Ab, .slice Aa nA Ac, .bool Ae, .slice Ad mA Af, .bool Bb, .slice Ba nB Bc, .bool Be, .slice Bd mB Bf, .bool Cb, .slice Ca nC Cc, .bool Ce, .slice Cd mC Cf, .bool Db, .slice Da nD Dc, .bool De, .slice Dd mD Df] 28) := ⟨_, rfl⟩
  have hE : Ext w wb := by rw [hwb]; exact (Ext.refl w).al _
  have c0 : ∀ W, Ext wb W → W.cell? ⟨w.heap.size, 0, none⟩ = some (.bool Ab) := fun W e => e.cell (by rw [hwb]; go_simp)
  have c1 : ∀ W, Ext wb W → W.cell? ⟨w.heap.size, 1, none⟩ = some (.slice Aa nA Ac) := fun W e => e.cell (by rw [hwb]; go_simp)
  have c2 : ∀ W, Ext wb W → W.cell? ⟨w.heap.size, 2, none⟩ = some (.bool Ae) := fun W e => e.cell (by rw [hwb]; go_simp)
  have c3 : ∀ W, Ext wb W → W.cell? ⟨w.heap.size, 3, none⟩ = some (.slice Ad mA Af) := fun W e => e.cell (by rw [hwb]; go_simp)
  have c4 : ∀ W, Ext wb W → W.cell? ⟨w.heap.size, 4, none⟩ = some (.bool Bb) := fun W e => e.cell (by rw [hwb]; go_simp)
  have c5 : ∀ W, Ext wb W → W.cell? ⟨w.heap.size, 5, none⟩ = some (.slice Ba nB Bc) := fun W e => e.cell (by rw [hwb]; go_simp)
  have c6 : ∀ W, Ext wb W → W.cell? ⟨w.heap.size, 6, none⟩ = some (.bool Be) := fun W e => e.cell (by rw [hwb]; go_simp)
  have c7 : ∀ W, Ext wb W → W.cell? ⟨w.heap.size, 7, none⟩ = some (.slice Bd mB Bf) := fun W e => e.cell (by rw [hwb]; go_simp)
  have c8 : ∀ W, Ext wb W → W.cell? ⟨w.heap.size, 8, none⟩ = some (.bool Cb) := fun W e => e.cell (by rw [hwb]; go_simp)
  have c9 : ∀ W, Ext wb W → W.cell? ⟨w.heap.size, 9, none⟩ = some (.slice Ca nC Cc) := fun W e => e.cell (by rw [hwb]; go_simp)
  have c10 : ∀ W, Ext wb W → W.cell? ⟨w.heap.size, 10, none⟩ = some (.bool Ce) := fun W e => e.cell (by rw [hwb]; go_simp)
  have c11 : ∀ W, Ext wb W → W.cell? ⟨w.heap.size, 11, none⟩ = some (.slice Cd mC Cf) := fun W e => e.cell (by rw [hwb]; go_simp)
  have c12 : ∀ W, Ext wb W → W.cell? ⟨w.heap.size, 12, none⟩ = some (.bool Db) := fun W e => e.cell (by rw [hwb]; go_simp)
  have c13 : ∀ W, Ext wb W → W.cell? ⟨w.heap.size, 13, none⟩ = some (.slice Da nD Dc) := fun W e => e.cell (by rw [hwb]; go_simp)
  have c14 : ∀ W, Ext wb W → W.cell? ⟨w.heap.size, 14, none⟩ = some (.bool De) := fun W e => e.cell (by rw [hwb]; go_simp)
  have c15 : ∀ W, Ext wb W → W.cell? ⟨w.heap.size, 15, none⟩ = some (.slice Dd mD Df) := fun W e => e.cell (by rw [hwb]; go_simp)
  rw [← hwb]
  replace hE := mkHid hE
  clear hwb
  apply region_ext [.val _, .val _, .val (.int .i64 CA), .val _, .val _, .val (.int .i64 CB), .val (.int .i64 (CA + CB)), .val _, .val _, .val (.int .i64 CC), .val (.int .i64 (CA + CB + CC)), .val _, .val _, .val (.int .i64 CD), .val (.int .i64 (CA + CB + CC + CD))] (by kernel_rfl) (stable_vals _ (stable_vals _ (stable_vals _ (stable_vals _ (stable_vals _ (stable_vals _ (stable_vals _ (stable_vals _ (stable_vals _ (stable_vals _ (stable_vals _ (stable_vals _ (stable_vals _ (stable_vals _ (stable_vals _ trivial)))))))))))))))
  refine ⟨fun W hW _ => by go_simp; exact ⟨Ext.refl _, rfl⟩, ?_⟩
  refine ⟨fun W hW _ => by go_simp; exact ⟨Ext.refl _, rfl⟩, ?_⟩
  refine ⟨fun W hW _ => ?g2, ?_⟩
  case g2 =>
    go_simp
    refine (kA.out W).mono ?_
    rintro e w' ⟨rfl, h1⟩
    exact ⟨rfl, h1⟩
  refine ⟨fun W hW _ => by go_simp; exact ⟨Ext.refl _, rfl⟩, ?_⟩
  refine ⟨fun W hW _ => by go_simp; exact ⟨Ext.refl _, rfl⟩, ?_⟩
  refine ⟨fun W hW _ => ?g5, ?_⟩
  case g5 =>
    go_simp
    refine (kB.out W).mono ?_
    rintro e w' ⟨rfl, h1⟩
    exact ⟨rfl, h1⟩
  refine ⟨fun W hW _ => by go_simp; exact ⟨Ext.refl _, by rw [IntKind.wrap_i64]; omega⟩, ?_⟩
  refine ⟨fun W hW _ => by go_simp; exact ⟨Ext.refl _, rfl⟩, ?_⟩
  refine ⟨fun W hW _ => by go_simp; exact ⟨Ext.refl _, rfl⟩, ?_⟩
  refine ⟨fun W hW _ => ?g9, ?_⟩
  case g9 =>
    go_simp
    refine (kC.out W).mono ?_
    rintro e w' ⟨rfl, h1⟩
    exact ⟨rfl, h1⟩
  refine ⟨fun W hW _ => by go_simp; exact ⟨Ext.refl _, by rw [IntKind.wrap_i64]; omega⟩, ?_⟩
  refine ⟨fun W hW _ => by go_simp; exact ⟨Ext.refl _, rfl⟩, ?_⟩
  refine ⟨fun W hW _ => by go_simp; exact ⟨Ext.refl _, rfl⟩, ?_⟩
  refine ⟨fun W hW _ => ?g13, ?_⟩
  case g13 =>
    go_simp
    refine (kD.out W).mono ?_
    rintro e w' ⟨rfl, h1⟩
    exact ⟨rfl, h1⟩
  refine ⟨fun W hW _ => by go_simp; exact ⟨Ext.refl _, by rw [IntKind.wrap_i64]; omega⟩, ?_⟩
  intro W hW _
  clear c0 c1 c2 c3 c4 c5 c6 c7 c8 c9 c10 c11 c12 c13 c14 c15
  replace hE := mkHid (hE.out.trans hW)
  clear hW
  go_simp
  go_wp2_with fail
  go_ret
  exact ⟨by trivial, hE.out⟩
set_option maxHeartbeats 1600000 in
theorem rayCost_c (Ab : Bool) (Aa : Option Addr) (nA Ac : Nat) (Ae : Bool) (Ad : Option Addr) (mA Af : Nat) (Bb : Bool) (Ba : Option Addr) (nB Bc : Nat) (Be : Bool) (Bd : Option Addr) (mB Bf : Nat) (w : World) (hnA : nA ≤ 140737488355328) (hmA : mA ≤ 140737488355328) (hnB : nB ≤ 140737488355328) (hmB : mB ≤ 140737488355328) :
    Calls Tryz.prog 6 #[.agg #[.bool Ab, .slice Aa nA Ac, .bool Ae, .slice Ad mA Af, .bool Bb, .slice Ba nB Bc, .bool Be, .slice Bd mB Bf]] w fun e w' => e = .returned (.int .i64 (costV nA mA + costV nB mB)) ∧ Ext w w' := by
  have kA := mkHid (fun w => fracCost_c Ab Ae Aa Ad nA Ac mA Af w hnA hmA)
  obtain ⟨pA, qA, -⟩ := costV_b nA mA hnA hmA
  have kB := mkHid (fun w => fracCost_c Bb Be Ba Bd nB Bc mB Bf w hnB hmB)
  obtain ⟨pB, qB, -⟩ := costV_b nB mB hnB hmB
  generalize costV nA mA = CA at *
  generalize costV nB mB = CB at *
  clear hnA hmA hnB hmB
  go_enter Tryz.func6, Tryz.ntmps6
  go_wp2_with fail
  obtain ⟨wb, hwb⟩ : ∃ wb, wb = w.alloc (.cells #[.bool Ab, .slice Aa nA Ac, .bool Ae, .slice Ad mA Af, .bool Bb, .slice Ba nB Bc, .bool Be, .slice Bd mB Bf] 30) := ⟨_, rfl⟩
  have hE : Ext w wb := by rw [hwb]; exact (Ext.refl w).al _
  have c0 : ∀ W, Ext wb W → W.cell? ⟨w.heap.size, 0, none⟩ = some (.bool Ab) := fun W e => e.cell (by rw [hwb]; go_simp)
  have c1 : ∀ W, Ext wb W → W.cell? ⟨w.heap.size, 1, none⟩ = some (.slice Aa nA Ac) := fun W e => e.cell (by rw [hwb]; go_simp)
  have c2 : ∀ W, Ext wb W → W.cell? ⟨w.heap.size, 2, none⟩ = some (.bool Ae) := fun W e => e.cell (by rw [hwb]; go_simp)
  have c3 : ∀ W, Ext wb W → W.cell? ⟨w.heap.size, 3, none⟩ = some (.slice Ad mA Af) := fun W e => e.cell (by rw [hwb]; go_simp)
  have c4 : ∀ W, Ext wb W → W.cell? ⟨w.heap.size, 4, none⟩ = some (.bool Bb) := fun W e => e.cell (by rw [hwb]; go_simp)
  have c5 : ∀ W, Ext wb W → W.cell? ⟨w.heap.size, 5, none⟩ = some (.slice Ba nB Bc) := fun W e => e.cell (by rw [hwb]; go_simp)
  have c6 : ∀ W, Ext wb W → W.cell? ⟨w.heap.size, 6, none⟩ = some (.bool Be) := fun W e => e.cell (by rw [hwb]; go_simp)
  have c7 : ∀ W, Ext wb W → W.cell? ⟨w.heap.size, 7, none⟩ = some (.slice Bd mB Bf) := fun W e => e.cell (by rw [hwb]; go_simp)
  rw [← hwb]
  replace hE := mkHid hE
  clear hwb
  apply region_ext [.val _, .val _, .val (.int .i64 CA), .val _, .val _, .val (.int .i64 CB), .val (.int .i64 (CA + CB))] (by kernel_rfl) (stable_vals _ (stable_vals _ (stable_vals _ (stable_vals _ (stable_vals _ (stable_vals _ (stable_vals _ trivial)))))))
  refine ⟨fun W hW _ => by go_simp; exact ⟨Ext.refl _, rfl⟩, ?_⟩
  refine ⟨fun W hW _ => by go_simp; exact ⟨Ext.refl _, rfl⟩, ?_⟩
  refine ⟨fun W hW _ => ?g2, ?_⟩
  case g2 =>
    go_simp
    refine (kA.out W).mono ?_
    rintro e w' ⟨rfl, h1⟩
    exact ⟨rfl, h1⟩
  refine ⟨fun W hW _ => by go_simp; exact ⟨Ext.refl _, rfl⟩, ?_⟩
  refine ⟨fun W hW _ => by go_simp; exact ⟨Ext.refl _, rfl⟩, ?_⟩
  refine ⟨fun W hW _ => ?g5, ?_⟩
  case g5 =>
    go_simp
    refine (kB.out W).mono ?_
    rintro e w' ⟨rfl, h1⟩
    exact ⟨rfl, h1⟩
  refine ⟨fun W hW _ => by go_simp; exact ⟨Ext.refl _, by rw [IntKind.wrap_i64]; omega⟩, ?_⟩
  intro W hW _
  clear c0 c1 c2 c3 c4 c5 c6 c7
  replace hE := mkHid (hE.out.trans hW)
  clear hW
  go_simp
  go_wp2_with fail
  go_ret
  exact ⟨by trivial, hE.out⟩

/-- What Beyond answers: 'false' only of what is small enough. -/
def ByV (s : Int) (v : Value) : Prop := ∃ r, v = .bool r ∧ (r = false → s ≤ 1048576)
set_option maxHeartbeats 1600000 in
theorem beyond1_c (g cap : Nat) (x : Int) (w : World) (h0 : 0 ≤ x) (h1 : x ≤ 4503599627370496) (hc : w.cell? ⟨g, 0, none⟩ = some (.int .i64 x)) :
    Calls Tryz.prog 4 #[.slice (some ⟨g, 0, none⟩) 1 cap] w fun e w' => ∃ v, e = .returned v ∧ Ext w w' ∧ ByV x v := by
  have FE := mkHid (Ext.refl w)
  by_cases hx : 1048576 < x
  · have hb : ByV x (.bool true) := ⟨true, rfl, fun h => by cases h⟩
    replace hb := mkHid hb
    go_enter Tryz.func4, Tryz.ntmps4
    go_wp2_with fail
    refine wp_loop_rounds 2 ?_
    rw [rounds_succ]
    go_wp2_with fail
    go_ret
    exact ⟨_, rfl, FE.out, hb.out⟩
  · have hb : ByV x (.bool false) := ⟨false, rfl, fun _ => by omega⟩
    replace hb := mkHid hb
    go_enter Tryz.func4, Tryz.ntmps4
    go_wp2_with fail
    refine wp_loop_rounds 2 ?_
    rw [rounds_succ]
    go_wp2_with fail
    rw [rounds_succ]
    go_wp2_with fail
    go_ret
    exact ⟨_, rfl, FE.out, hb.out⟩
set_option maxHeartbeats 1600000 in
theorem beyond2_c (g cap : Nat) (x y : Int) (w : World) (h0 : 0 ≤ x) (h1 : x ≤ 4503599627370496) (h2 : 0 ≤ y) (h3 : y ≤ 4503599627370496) (hc : w.cell? ⟨g, 0, none⟩ = some (.int .i64 x)) (hd : w.cell? ⟨g, 1, none⟩ = some (.int .i64 y)) :
    Calls Tryz.prog 4 #[.slice (some ⟨g, 0, none⟩) 2 cap] w fun e w' => ∃ v, e = .returned v ∧ Ext w w' ∧ ByV (x + y) v := by
  have FE := mkHid (Ext.refl w)
  by_cases hx : 1048576 < x
  · have hb : ByV (x + y) (.bool true) := ⟨true, rfl, fun h => by cases h⟩
    replace hb := mkHid hb
    go_enter Tryz.func4, Tryz.ntmps4
    go_wp2_with fail
    refine wp_loop_rounds 3 ?_
    rw [rounds_succ]
    go_wp2_with fail
    go_ret
    exact ⟨_, rfl, FE.out, hb.out⟩
  · by_cases hy : 1048576 < x + y
    · have hb : ByV (x + y) (.bool true) := ⟨true, rfl, fun h => by cases h⟩
      replace hb := mkHid hb
      go_enter Tryz.func4, Tryz.ntmps4
      go_wp2_with fail
      refine wp_loop_rounds 3 ?_
      rw [rounds_succ]
      go_wp2_with fail
      rw [rounds_succ]
      go_wp2_with fail
      go_ret
      exact ⟨_, rfl, FE.out, hb.out⟩
    · have hb : ByV (x + y) (.bool false) := ⟨false, rfl, fun _ => by omega⟩
      replace hb := mkHid hb
      go_enter Tryz.func4, Tryz.ntmps4
      go_wp2_with fail
      refine wp_loop_rounds 3 ?_
      rw [rounds_succ]
      go_wp2_with fail
      rw [rounds_succ]
      go_wp2_with fail
      rw [rounds_succ]
      go_wp2_with fail
      go_ret
      exact ⟨_, rfl, FE.out, hb.out⟩
/-- Some answer. -/
def BoolV (v : Value) : Prop := ∃ r, v = .bool r
theorem AnyF.lens {w : World} {b1 b2 : Bool} {a1 a2 : Option Addr} {n1 c1 n2 c2 : Nat} {o : Option Rat} (h : AnyF w (.agg #[.bool b1, .slice a1 n1 c1, .bool b2, .slice a2 n2 c2]) o) : n1 ≤ 4294967296 ∧ n2 ≤ 4294967296 := by
  obtain ⟨x1, l1, x2, l2, ⟨y1, z1, y2, z2, e, h2, h3, -, -⟩, -⟩ := h
  simp only [Value.agg.injEq, Array.mk.injEq, List.cons.injEq, and_true, Value.slice.injEq] at e
  omega
end Go.Proofs.YtpmfohhpaoagfaaGreat
namespace Go.Proofs.YtpmfohhpaoagfaaGreat.Late
open Go Go.RowKit Go.Proofs.YtpmfohhpaoagfaaGreat
def okOper (pre : List Nat) (l : List Oper) (n i : Nat) (o : Oper) : Bool :=
  (o.after.toList.all fun e => !Region.binds .any e || decide (e.on < i)) &&
  (if i < n then
    o.dst.isSome && (List.range l.length).all fun j => match l[j]? with
      | some oj => (match oj.dst with
        | some d => (!(o.looksAt l.toArray).contains d || (decide (j < i) && hasEdge o j)) && (j == i || o.dst != some d)
        | none => true)
      | none => true
  else (List.range i).all fun j => pre.contains j || ancB l 16 o j)
def okFree (pre : List Nat) (n size : Nat) (l : List Oper) : Bool :=
  Region.noSelect l.toArray && decide (n ≤ l.length) && (l.all fun o => match o.dst with | some d => decide (d < size) | none => true) &&
    (List.range l.length).all fun i => match l[i]? with | some o => okOper pre l n i o | none => true
section
variable {pre : List Nat} {P : Program} {l0 : List Oper} {R : World → World → Prop} {w0 : World} {Q : Exit → Act → World → Prop}
theorem tail_forced {n : Nat} (htail : ∀ i o, n ≤ i → l0[i]? = some o → ∀ j, j < i → j ∈ pre ∨ ancB l0 16 o j = true) :
    ∀ (k m : Nat) (listed : Array Bool) (a : Act) (W : World) (fuel : Nat), n ≤ m → m + k = l0.length → k ≤ fuel → listed.size = l0.length → (∀ j ∈ pre, listed.getD j false = true) →
      (∀ i o, listed.getD i false = true → l0[i]? = some o → ∀ e ∈ o.after, Region.binds .any e = true → listed.getD e.on false = true) →
      (∀ i, i < l0.length → (listed.getD i false = true ↔ i < m)) →
      (∀ i o, l0[i]? = some o → ∀ e ∈ o.after, Region.binds .any e = true → e.on < i) →
      wpList P l0.toArray Q (l0.drop m) a W → wpAny P .any l0.toArray Q fuel listed a W := by
  intro k
  induction k with
  | zero =>
    intro m listed a W fuel _ hmk _ hsz _ _ hlst _ h
    have hr : Region.ready .any l0.toArray listed = [] := by
      cases hr : Region.ready .any l0.toArray listed with
      | nil => rfl
      | cons i r =>
        have := (mem_ready (md := .any) (ops := l0.toArray) (listed := listed) (j := i)).1 (by rw [hr]; simp)
        have hlt := lt_of_unlisted this.1
        have h2 := (hlst i (by omega)).2 (by omega)
        have h3 := this.1
        simp [hlt] at h2 h3
        rw [h2] at h3
        cases h3
    rw [List.drop_eq_nil_of_le (show l0.length ≤ m by omega)] at h
    exact wpAny_done hr h fuel
  | succ k ih =>
    intro m listed a W fuel hnm hmk hfuel hsz hpre hcl hlst hed h
    obtain ⟨fuel, rfl⟩ : ∃ f, fuel = f + 1 := ⟨fuel - 1, by omega⟩
    have hml : m < l0.length := by omega
    have ho : l0[m]? = some l0[m] := List.getElem?_eq_getElem hml
    have hun : listed.getD m true = false := by
      rcases listed_cases (listed := listed) (i := m) (by omega) with h1 | h1
      · have := (hlst m hml).1 h1; omega
      · exact h1
    have hready : m ∈ Region.ready .any l0.toArray listed := by
      rw [mem_ready]
      exact ⟨hun, _, by simp [hml], fun e he hb => (hlst e.on (by have := hed m _ ho e he hb; omega)).2 (hed m _ ho e he hb)⟩
    refine ⟨fun h0 => absurd (h0 ▸ hready) (by simp), fun i hi => ?_⟩
    have him : i = m := by
      obtain ⟨h1, o, ho', hall⟩ := mem_ready.1 hi
      have hlt := lt_of_unlisted h1
      rcases Nat.lt_trichotomy i m with hlt' | he | hgt
      · have h2 := (hlst i (by omega)).2 hlt'
        simp [hlt] at h1 h2
        rw [h2] at h1; cases h1
      · exact he
      · have ho'' : l0[i]? = some o := by simpa using ho'
        have := (htail i o (by omega) ho'' m hgt).elim (fun hp => hpre m hp) (listed_anc hcl 16 o m hall)
        have := (hlst m hml).1 this
        omega
    subst him
    unfold wpOp
    simp only [List.getElem?_toArray, ho]
    rw [List.drop_eq_getElem_cons hml] at h
    simp only [wpList] at h
    have next : ∀ a' W', wpList P l0.toArray Q (l0.drop (i + 1)) a' W' → wpAny P .any l0.toArray Q fuel (listed.setIfInBounds i true) a' W' := by
      intro a' W' h'
      refine ih (i + 1) _ a' W' fuel (by omega) (by omega) (by omega) (by simpa using hsz) (fun j hj => getD_set_true (hpre j hj)) ?_ ?_ hed h'
      · intro j o hj hoj e he hb
        by_cases hij : i = j
        · subst hij
          rw [ho] at hoj
          cases hoj
          exact getD_set_true ((hlst e.on (by have := hed i _ ho e he hb; omega)).2 (hed i _ ho e he hb))
        · rw [getD_set_ne false hij] at hj
          exact getD_set_true (hcl j o hj hoj e he hb)
      · intro j hj
        by_cases hij : i = j
        · subst hij
          simp [show i < listed.size by omega]
        · rw [getD_set_ne false hij, hlst j hj]
          omega
    split
    · rename_i hw
      rw [if_pos hw] at h
      exact h.imp (Oper.wp_mono next) id
    · rename_i hw
      rw [if_neg hw] at h
      exact next _ _ h
structure OkSpec (pre : List Nat) (l : List Oper) (n size : Nat) : Prop where
  sel : ∀ (j : Nat) (o : Oper) cs b, l[j]? = some o → o.op ≠ .select cs b
  len : n ≤ l.length
  dst : ∀ (j : Nat) (o : Oper) (d : Tmp), l[j]? = some o → o.dst = some d → d < size
  edge : ∀ (i : Nat) (o : Oper), l[i]? = some o → ∀ e ∈ o.after, Region.binds .any e = true → e.on < i
  has : ∀ (i : Nat) (o : Oper), i < n → l[i]? = some o → o.dst.isSome = true
  look : ∀ (i : Nat) (o : Oper) (j : Nat) (oj : Oper) (d : Tmp), i < n → l[i]? = some o → l[j]? = some oj → oj.dst = some d → d ∈ o.looksAt l.toArray → j < i ∧ hasEdge o j = true
  one : ∀ (i : Nat) (o : Oper) (j : Nat) (oj : Oper) (d : Tmp), i < n → l[i]? = some o → l[j]? = some oj → oj.dst = some d → i ≠ j → o.dst ≠ some d
  tail : ∀ (i : Nat) (o : Oper), n ≤ i → l[i]? = some o → ∀ j, j < i → j ∈ pre ∨ ancB l 16 o j = true
theorem okFree_spec {n size : Nat} {l : List Oper} (h : okFree pre n size l = true) : OkSpec pre l n size := by
  simp only [okFree, Bool.and_eq_true, decide_eq_true_eq, List.all_eq_true, List.mem_range] at h
  obtain ⟨⟨⟨h1, h2⟩, h3⟩, h4⟩ := h
  have at_ : ∀ i o, l[i]? = some o → okOper pre l n i o = true := by
    intro i o ho
    have := h4 i (List.getElem?_eq_some_iff.1 ho).1
    rwa [ho] at this
  refine ⟨fun j o cs b hj => Region.noSelect_spec h1 j o cs b (by simpa using hj), h2, ?_, ?_, ?_, ?_, ?_, ?_⟩
  · intro j o d ho hd
    have := h3 o (List.mem_of_getElem? ho)
    simpa [hd] using this
  · intro i o ho e he hb
    have := at_ i o ho
    simp only [okOper, Bool.and_eq_true, List.all_eq_true, Bool.or_eq_true, Bool.not_eq_true', decide_eq_true_eq] at this
    have := this.1 e (Array.mem_toList_iff.2 he)
    rcases this with h | h
    · rw [h] at hb; cases hb
    · exact h
  · intro i o hi ho
    have := at_ i o ho
    simp only [okOper, Bool.and_eq_true, if_pos hi] at this
    exact this.2.1
  · intro i o j oj d hi ho hj hd hm
    have := at_ i o ho
    simp only [okOper, Bool.and_eq_true, if_pos hi, List.all_eq_true, List.mem_range] at this
    have := this.2.2 j (List.getElem?_eq_some_iff.1 hj).1
    simp only [hj, hd, Bool.and_eq_true, Bool.or_eq_true, Bool.not_eq_true', decide_eq_true_eq] at this
    rcases this.1 with h | h
    · have := List.contains_iff_mem.2 hm
      rw [h] at this; cases this
    · exact h
  · intro i o j oj d hi ho hj hd hne
    have := at_ i o ho
    simp only [okOper, Bool.and_eq_true, if_pos hi, List.all_eq_true, List.mem_range] at this
    have := this.2.2 j (List.getElem?_eq_some_iff.1 hj).1
    simp only [hj, hd, Bool.and_eq_true, Bool.or_eq_true, beq_iff_eq, bne_iff_ne, ne_eq] at this
    rcases this.2 with h | h
    · exact absurd h.symm hne
    · exact h
  · intro i o hi ho j hj
    have := at_ i o ho
    simp only [okOper, Bool.and_eq_true, if_neg (Nat.not_lt.2 hi), List.all_eq_true, List.mem_range] at this
    have := this.2 j hj
    rw [Bool.or_eq_true] at this
    exact this.imp (fun h => List.contains_iff_mem.1 h) id
/-- Where a region stands, whatever came first. -/
structure Midway (pre : List Nat) (l : List Oper) (specs : List FSpec) (R : World → World → Prop) (w0 : World) (a0 : Act) (listed : Array Bool) (a : Act) (W : World) : Prop where
  size : listed.size = l.length
  rel : R w0 W
  defers : a.defers = a0.defers
  tsize : a.tmps.size = a0.tmps.size
  closed : ∀ (i : Nat) (o : Oper), listed.getD i false = true → l[i]? = some o → ∀ e ∈ o.after, Region.binds .any e = true → listed.getD e.on false = true
  other : ∀ (t : Tmp), (∀ (j : Nat) (o : Oper), l[j]? = some o → listed.getD j false = true → o.dst ≠ some t) → a.tmps[t]? = a0.tmps[t]?
  fact : ∀ (j : Nat) (o : Oper) (d : Tmp) (s : FSpec), listed.getD j false = true → l[j]? = some o → o.dst = some d → specs[j]? = some s → s.ok W (a.tmps.getD d undef)
  late : ∀ (j : Nat), specs.length ≤ j → listed.getD j false = false
theorem Midway.value {specs : List FSpec} {a0 a : Act} {listed : Array Bool} {W : World} (m : Midway pre l0 specs R w0 a0 listed a W) {j : Nat} {o : Oper} {d : Tmp} (hj : listed.getD j false = true) (ho : l0[j]? = some o) (hd : o.dst = some d) :
    a.tmps.getD d undef = valuesOf l0 specs a j := by
  have hlt : j < specs.length := by
    rcases Nat.lt_or_ge j specs.length with h | h
    · exact h
    · rw [m.late j h] at hj; cases hj
  have hs : specs[j]? = some specs[j] := List.getElem?_eq_getElem hlt
  have := m.fact j o d _ hj ho hd hs
  generalize specs[j] = s at this hs
  cases s with
  | val c => simp only [FSpec.ok] at this; simp [valuesOf, hs, this]
  | pred Φ => simp [valuesOf, hs, ho, hd]
theorem Midway.tmp {specs : List FSpec} {a0 a : Act} {listed : Array Bool} {W : World} (m : Midway pre l0 specs R w0 a0 listed a W) (ok : OkSpec pre l0 specs.length a0.tmps.size) (k t : Nat) (hk : k ≤ specs.length)
    (h : ∀ (j : Nat) (oj : Oper), l0[j]? = some oj → oj.dst = some t → j < k ∧ listed.getD j false = true) : (frameAt a0 l0 (valuesOf l0 specs a) k).tmps[t]? = a.tmps[t]? := by
  by_cases hex : ∃ (j : Nat) (oj : Oper), l0[j]? = some oj ∧ oj.dst = some t
  · obtain ⟨j, oj, hj, hd⟩ := hex
    obtain ⟨hjk, hlj⟩ := h j oj hj hd
    have ht := ok.dst j oj t hj hd
    rw [frameAt_own a0 l0 _ k t j oj hjk hj hd ht fun i o' hne ho' hd' => by
      rcases Nat.lt_or_ge i specs.length with hi | hi
      · exact ok.one i o' j oj t hi ho' hj hd hne hd'
      · exact ok.one j oj i o' t (by omega) hj ho' hd' (Ne.symm hne) hd]
    rw [← m.value hlj hj hd]
    have : t < a.tmps.size := by rw [m.tsize]; exact ht
    simp [this]
  · rw [frameAt_other a0 l0 _ k t fun j o _ ho hd => hex ⟨j, o, ho, hd⟩, m.other t fun j o ho _ hd => hex ⟨j, o, ho, hd⟩]
theorem Midway.next {specs : List FSpec} {a0 a : Act} {listed : Array Bool} {W : World} (m : Midway pre l0 specs R w0 a0 listed a W) (ok : OkSpec pre l0 specs.length a0.tmps.size) (htr : ∀ a b c, R a b → R b c → R a c)
    (hst : ∀ s ∈ specs, ∀ W W' v, R W W' → s.ok W v → s.ok W' v) {i : Nat} {o : Oper} (hi : i < specs.length) (ho : l0[i]? = some o) (hedge : ∀ e ∈ o.after, Region.binds .any e = true → listed.getD e.on false = true) :
    ∀ W' v, R W W' → specs[i].ok W' v → Midway pre l0 specs R w0 a0 (listed.setIfInBounds i true) (a.put o.dst v) W' := by
  have hil : i < l0.length := (List.getElem?_eq_some_iff.1 ho).1
  have hlt : i < listed.size := by rw [m.size]; exact hil
  have hs : specs[i]? = some specs[i] := List.getElem?_eq_getElem hi
  intro W' v hR hv
  refine ⟨by simpa using m.size, htr _ _ _ m.rel hR, ?_, ?_, ?_, ?_, ?_, ?_⟩
  · rw [← m.defers]; cases o.dst <;> rfl
  · rw [← m.tsize]; cases hd : o.dst <;> simp [Act.put]
  · intro j oj hj hoj e he hb
    by_cases hij : i = j
    · subst hij
      rw [ho] at hoj; cases hoj
      exact getD_set_true (hedge e he hb)
    · rw [getD_set_ne false hij] at hj
      exact getD_set_true (m.closed j oj hj hoj e he hb)
  · intro t ht
    have hne : o.dst ≠ some t := ht i o ho (by simp [hlt])
    rw [← m.other t fun j oj hoj hj => ht j oj hoj (by
      by_cases hij : i = j
      · subst hij; simp [hlt]
      · rw [getD_set_ne false hij]; exact hj)]
    cases hd : o.dst with
    | none => rfl
    | some d =>
      have : d ≠ t := fun e => hne (by rw [hd, e])
      simp [Act.put, Array.getElem?_setIfInBounds_ne this]
  · intro j oj d s hj hoj hdj hsj
    by_cases hij : i = j
    · subst hij
      rw [ho] at hoj; cases hoj
      rw [hs] at hsj; cases hsj
      have hsz : d < a.tmps.size := by rw [m.tsize]; exact ok.dst i _ d ho hdj
      simpa [Act.put, hdj, hsz] using hv
    · rw [getD_set_ne false hij] at hj
      have hf := m.fact j oj d s hj hoj hdj hsj
      have hf := hst s (List.mem_of_getElem? hsj) _ _ _ hR hf
      have hnd : o.dst ≠ some d := ok.one i o j oj d hi ho hoj hdj hij
      cases hd : o.dst with
      | none => simpa [Act.put] using hf
      | some e =>
        have : e ≠ d := fun e' => hnd (by rw [hd, e'])
        simpa [Act.put, Array.getElem?_setIfInBounds_ne this] using hf
  · intro j hj
    rw [getD_set_ne false (show i ≠ j by omega)]
    exact m.late j hj
/-- One operation more, none of the tail. -/
theorem Midway.step {specs : List FSpec} {a0 a : Act} {listed : Array Bool} {W : World} (m : Midway pre l0 specs R w0 a0 listed a W) (ok : OkSpec pre l0 specs.length a0.tmps.size) (hrf : ∀ a, R a a) (htr : ∀ a b c, R a b → R b c → R a c)
    (hst : ∀ s ∈ specs, ∀ W W' v, R W W' → s.ok W v → s.ok W' v) (h : freeSteps P l0 R w0 Q 0 specs l0 a0 []) {i : Nat} (hi : i < specs.length) (hr : i ∈ Region.ready .any l0.toArray listed) :
    wpOp P l0.toArray Q i (fun a' W' => Midway pre l0 specs R w0 a0 (listed.setIfInBounds i true) a' W') a W := by
  obtain ⟨hun, o, ho', hedge⟩ := mem_ready.1 hr
  have ho : l0[i]? = some o := by simpa using ho'
  have hil : i < l0.length := (List.getElem?_eq_some_iff.1 ho).1
  have hlt : i < listed.size := by rw [m.size]; exact hil
  have hat := steps_at h (valuesOf l0 specs a) (valuesOf_fits l0 specs a) i (by omega)
  rw [List.drop_eq_getElem_cons hi, List.drop_eq_getElem_cons hil] at hat
  have hs : specs[i]? = some specs[i] := List.getElem?_eq_getElem hi
  have hoi : l0[i] = o := by
    have := List.getElem?_eq_getElem hil
    rw [ho] at this
    exact (Option.some.inj this).symm
  rw [hoi] at hat
  have hfacts : ∀ p ∈ factsAt specs (valuesOf l0 specs a) i, leans l0 o p.1 = true → p.2.1.ok W p.2.2 := by
    intro p hp hl
    obtain ⟨h1, h2, h3⟩ := mem_factsAt hp
    unfold leans at hl
    split at hl
    · rename_i d hd
      obtain ⟨oj, hj, hdj⟩ := Option.bind_eq_some_iff.1 hd
      have hlook := ok.look i o p.1 oj d hi ho hj hdj (List.contains_iff_mem.1 hl)
      have hlj : listed.getD p.1 false = true := listed_anc (l0 := l0) m.closed 0 o p.1 hedge hlook.2
      have := m.fact p.1 oj d p.2.1 hlj hj hdj h2
      rw [h3, ← m.value hlj hj hdj]
      exact this
    · cases hl
  have hsame : ∀ t, t ∈ o.looksAt l0.toArray → (frameAt a0 l0 (valuesOf l0 specs a) i).tmps[t]? = a.tmps[t]? := by
    intro t ht
    refine m.tmp ok i t (by omega) fun j oj hj hdj => ?_
    have hlook := ok.look i o j oj t hi ho hj hdj ht
    exact ⟨hlook.1, listed_anc (l0 := l0) m.closed 0 o j hedge hlook.2⟩
  have hev : execOp (frameAt a0 l0 (valuesOf l0 specs a) i).eval o = execOp a.eval o := eval_of_tmps o (fun cs b => ok.sel i o cs b ho) hsame
  have hwa : Region.wanted o (yielded l0.toArray (frameAt a0 l0 (valuesOf l0 specs a) i).tmps) = Region.wanted o (yielded l0.toArray a.tmps) := wanted_of_tmps o hsame
  -- what is left to show of each value
  have next : ∀ W' v, R W W' → specs[i].ok W' v → Midway pre l0 specs R w0 a0 (listed.setIfInBounds i true) (a.put o.dst v) W' := by
    intro W' v hR hv
    refine ⟨by simpa using m.size, htr _ _ _ m.rel hR, ?_, ?_, ?_, ?_, ?_, ?_⟩
    · rw [← m.defers]; cases o.dst <;> rfl
    · rw [← m.tsize]; cases hd : o.dst <;> simp [Act.put]
    · intro j oj hj hoj e he hb
      by_cases hij : i = j
      · subst hij
        rw [ho] at hoj; cases hoj
        exact getD_set_true (hedge e he hb)
      · rw [getD_set_ne false hij] at hj
        exact getD_set_true (m.closed j oj hj hoj e he hb)
    · intro t ht
      have hne : o.dst ≠ some t := ht i o ho (by simp [hlt])
      rw [← m.other t fun j oj hoj hj => ht j oj hoj (by
        by_cases hij : i = j
        · subst hij; simp [hlt]
        · rw [getD_set_ne false hij]; exact hj)]
      cases hd : o.dst with
      | none => rfl
      | some d =>
        have : d ≠ t := fun e => hne (by rw [hd, e])
        simp [Act.put, Array.getElem?_setIfInBounds_ne this]
    · intro j oj d s hj hoj hdj hsj
      by_cases hij : i = j
      · subst hij
        rw [ho] at hoj; cases hoj
        rw [hs] at hsj; cases hsj
        have hsz : d < a.tmps.size := by rw [m.tsize]; exact ok.dst i _ d ho hdj
        simpa [Act.put, hdj, hsz] using hv
      · rw [getD_set_ne false hij] at hj
        have hf := m.fact j oj d s hj hoj hdj hsj
        have hf := hst s (List.mem_of_getElem? hsj) _ _ _ hR hf
        have hnd : o.dst ≠ some d := ok.one i o j oj d hi ho hoj hdj hij
        cases hd : o.dst with
        | none => simpa [Act.put] using hf
        | some e =>
          have : e ≠ d := fun e' => hnd (by rw [hd, e'])
          simpa [Act.put, Array.getElem?_setIfInBounds_ne this] using hf
    · intro j hj
      rw [getD_set_ne false (show i ≠ j by omega)]
      exact m.late j hj
  unfold wpOp
  simp only [List.getElem?_toArray, ho]
  generalize hsp : specs[i] = s at hat next
  cases s with
  | val c =>
    simp only [freeSteps] at hat
    have hone := hat.1 W m.rel (factsHold_of hfacts)
    rw [hwa, hev] at hone
    split
    · rename_i hw
      rw [if_pos hw] at hone
      refine .inl (upon_of_gives hone fun w' v hv => next _ _ hv.1 hv.2)
    · rename_i hw
      rw [if_neg hw] at hone
      exact next W undef (hrf W) hone
  | pred Φ =>
    simp only [freeSteps] at hat
    have hone := hat.1 W m.rel (factsHold_of hfacts)
    rw [hwa, hev] at hone
    split
    · rename_i hw
      rw [if_pos hw] at hone
      refine .inl (upon_of_gives hone fun w' v hv => next _ _ hv.1 hv.2)
    · rename_i hw
      rw [if_neg hw] at hone
      exact next W undef (hrf W) hone
/-- All of the front is done, and nothing else: the frame is the lexical walk's. -/
theorem Midway.done {specs : List FSpec} {a0 a : Act} {listed : Array Bool} {W : World} (m : Midway pre l0 specs R w0 a0 listed a W) (ok : OkSpec pre l0 specs.length a0.tmps.size) (hall : ∀ j, j < specs.length → listed.getD j false = true) :
    a = frameAt a0 l0 (valuesOf l0 specs a) specs.length ∧ ∀ p ∈ factsAt specs (valuesOf l0 specs a) specs.length, p.2.1.ok W p.2.2 := by
  refine ⟨?_, fun p hp => ?_⟩
  · obtain ⟨tm, df⟩ := a
    have hdf := frameAt_defers a0 l0 (valuesOf l0 specs ⟨tm, df⟩) specs.length
    have htm : tm = (frameAt a0 l0 (valuesOf l0 specs ⟨tm, df⟩) specs.length).tmps := by
      refine Array.ext_getElem? fun t => ?_
      by_cases hex : ∃ (j : Nat) (oj : Oper), l0[j]? = some oj ∧ oj.dst = some t ∧ specs.length ≤ j
      · obtain ⟨j, oj, hj, hd, hge⟩ := hex
        by_cases hin : ∃ (i : Nat) (oi : Oper), l0[i]? = some oi ∧ oi.dst = some t ∧ i < specs.length
        · obtain ⟨i, oi, hi, hdi, hlt⟩ := hin
          exact absurd hdi (ok.one i oi j oj t hlt hi hj hd (by omega))
        · rw [frameAt_other a0 l0 _ _ t fun i o hi ho hd' => hin ⟨i, o, ho, hd', hi⟩]
          refine m.other t fun i o ho hl hd' => ?_
          rcases Nat.lt_or_ge i specs.length with h | h
          · exact hin ⟨i, o, ho, hd', h⟩
          · rw [m.late i h] at hl; cases hl
      · refine (m.tmp ok specs.length t (Nat.le_refl _) fun j oj hj hd => ?_).symm
        have hlt : j < specs.length := by
          rcases Nat.lt_or_ge j specs.length with h | h
          · exact h
          · exact absurd ⟨j, oj, hj, hd, h⟩ hex
        exact ⟨hlt, hall j hlt⟩
    have h1 : (frameAt a0 l0 (valuesOf l0 specs ⟨tm, df⟩) specs.length).defers = df := by rw [hdf, ← m.defers]
    generalize frameAt a0 l0 (valuesOf l0 specs ⟨tm, df⟩) specs.length = f at htm h1
    obtain ⟨ft, fd⟩ := f
    simp only at htm h1
    rw [htm, h1]
  · obtain ⟨h1, h2, h3⟩ := mem_factsAt hp
    have hil : p.1 < l0.length := by have := ok.len; omega
    have ho : l0[p.1]? = some l0[p.1] := List.getElem?_eq_getElem hil
    rw [h3]
    cases hd : l0[p.1].dst with
    | some d =>
      rw [← m.value (hall p.1 h1) ho hd]
      exact m.fact p.1 _ d _ (hall p.1 h1) ho hd h2
    | none =>
      have := ok.has p.1 _ h1 ho
      simp [hd] at this
theorem free_mono {md : Region.Mode} {ops : Array Oper} {listed : Array Bool} {i : Nat} (f : Nat → Bool) (hl : ∀ j, f j = true → listed.getD j true = true) (h : Region.free md ops (((List.range ops.size).map f).toArray) i = true) : Region.free md ops listed i = true := by
  unfold Region.free at *
  split at h
  · cases h
  · rw [List.all_eq_true] at *
    intro j hj
    have := h j hj
    have hjl : j < ops.size := List.mem_range.1 hj
    have e : (((List.range ops.size).map f).toArray).getD j true = f j := by simp [hjl]
    rw [e] at this
    cases h2 : listed.getD j true with
    | true => simp
    | false =>
      have h3 : f j = false := by
        cases h4 : f j with
        | false => rfl
        | true => rw [hl j h4] at h2; cases h2
      rw [h3] at this
      exact this
theorem free_any {specs : List FSpec} {a0 : Act} {k : Nat} {ok' : Oper} {d : Tmp} {v : Value} (hpk : pre = [k]) (hk : l0[k]? = some ok') (_hkd : ok'.dst = some d) (hks : specs[k]? = some (.val v)) (hns : Region.noSelect l0.toArray = true)
    (hf : Region.free .any l0.toArray (((List.range l0.toArray.size).map fun j => hasEdge ok' j).toArray) k = true) (hQ : ∀ c a w, Q (.panic c) (a.put ok'.dst v) w → Q (.panic c) a w)
    (hy : ∀ (a : Act) (W : World), R w0 W → (∀ j s oj dj, specs[j]? = some s → l0[j]? = some oj → oj.dst = some dj → hasEdge ok' j = true → s.ok W (a.tmps.getD dj undef)) → Yields P l0.toArray ok' v a)
    (ok : OkSpec pre l0 specs.length a0.tmps.size) (hrf : ∀ a, R a a) (htr : ∀ a b c, R a b → R b c → R a c)
    (hst : ∀ s ∈ specs, ∀ W W' v, R W W' → s.ok W v → s.ok W' v) (h : freeSteps P l0 R w0 Q 0 specs l0 a0 []) :
    ∀ (fuel : Nat) (listed : Array Bool) (a : Act) (W : World), left l0 listed ≤ fuel → Midway pre l0 specs R w0 a0 listed a W → wpAny P .any l0.toArray Q fuel listed a W := by
  have fin : ∀ (listed : Array Bool) (a : Act) (W : World), Midway pre l0 specs R w0 a0 listed a W → (∀ j, j < specs.length → listed.getD j false = true) → wpList P l0.toArray Q (l0.drop specs.length) a W := by
    intro listed a W m hall
    obtain ⟨he, hf⟩ := m.done ok hall
    have hat := steps_at h (valuesOf l0 specs a) (valuesOf_fits l0 specs a) specs.length (Nat.le_refl _)
    rw [List.drop_length] at hat
    simp only [freeSteps] at hat
    have := hat W m.rel (factsHold_of fun p hp _ => hf p hp)
    rwa [← he] at this
  have hkn : k < specs.length := (List.getElem?_eq_some_iff.1 hks).1
  have hpre : ∀ (listed : Array Bool), (∀ j, j < specs.length → listed.getD j false = true) → ∀ j ∈ pre, listed.getD j false = true := by
    intro listed hall j hj
    rw [hpk] at hj
    obtain rfl := List.mem_singleton.1 hj
    exact hall _ hkn
  have hlst : ∀ (listed : Array Bool) (a : Act) (W : World), Midway pre l0 specs R w0 a0 listed a W → (∀ j, j < specs.length → listed.getD j false = true) → ∀ i, i < l0.length → (listed.getD i false = true ↔ i < specs.length) := by
    intro listed a W m hall i hi
    constructor
    · intro hl
      rcases Nat.lt_or_ge i specs.length with h | h
      · exact h
      · rw [m.late i h] at hl; cases hl
    · exact hall i
  intro fuel
  induction fuel with
  | zero =>
    intro listed a W hl m
    have hnone : ∀ i, i < l0.length → listed.getD i true = true := by
      intro i hi
      have h0 : ((List.range l0.length).filter fun i => !listed.getD i true) = [] := List.eq_nil_of_length_eq_zero (by unfold left at hl; omega)
      have := List.filter_eq_nil_iff.1 h0 i (List.mem_range.2 hi)
      simpa using this
    have hall : ∀ j, j < specs.length → listed.getD j false = true := by
      intro j hj
      have h1 := hnone j (by have := ok.len; omega)
      rcases listed_cases (listed := listed) (i := j) (by rw [m.size]; have := ok.len; omega) with h2 | h2
      · exact h2
      · rw [h2] at h1; cases h1
    have hn : specs.length = l0.length := by
      rcases Nat.lt_or_ge specs.length l0.length with h1 | h1
      · have h2 := hnone specs.length h1
        have h3 := m.late specs.length (Nat.le_refl _)
        rcases listed_cases (listed := listed) (i := specs.length) (by rw [m.size]; exact h1) with h4 | h4
        · rw [h4] at h3; cases h3
        · rw [h4] at h2; cases h2
      · have := ok.len; omega
    exact tail_forced ok.tail 0 specs.length listed a W 0 (Nat.le_refl _) hn (Nat.le_refl _) m.size (hpre _ hall) m.closed (hlst _ _ _ m hall) ok.edge (fin _ _ _ m hall)
  | succ fuel ih =>
    intro listed a W hl m
    by_cases hall : ∀ j, j < specs.length → listed.getD j false = true
    · refine tail_forced ok.tail (l0.length - specs.length) specs.length listed a W (fuel + 1) (Nat.le_refl _) (by have := ok.len; omega) ?_ m.size (hpre _ hall) m.closed (hlst _ _ _ m hall) ok.edge (fin _ _ _ m hall)
      have := left_ge (l := l0) (listed := listed) (n := specs.length) fun i h1 h2 => by
        have := m.late i h1
        have hlt : i < listed.size := by rw [m.size]; exact h2
        simpa [hlt] using this
      omega
    · by_cases hrk : k ∈ Region.ready .any l0.toArray listed
      · obtain ⟨hun, o, ho', hedge⟩ := mem_ready.1 hrk
        have ho : l0[k]? = some o := by simpa using ho'
        rw [hk] at ho; cases ho
        have hed : ∀ j, hasEdge ok' j = true → listed.getD j false = true := fun j he => by
          obtain ⟨e, he1, he2⟩ := List.any_eq_true.1 he
          simp only [Bool.and_eq_true, beq_iff_eq] at he2
          have := hedge e (Array.mem_toList_iff.1 he1) he2.1
          rwa [he2.2] at this
        have hle : ∀ j, hasEdge ok' j = true → listed.getD j true = true := fun j he => by
          have h1 := hed j he
          rcases Nat.lt_or_ge j listed.size with h2 | h2
          · simpa [h2] using h1
          · simp [h2]
        have hyy : Yields P l0.toArray ok' v a := hy a W m.rel fun j s oj dj hs hj hd he => by
          exact m.fact j oj dj s (hed j he) hj hd hs
        refine wpAny_take (i := k) (by simpa using hk) hns (free_mono _ hle hf) (List.contains_iff_mem.2 hrk) hQ hyy ?_
        have hil : k < l0.length := (List.getElem?_eq_some_iff.1 hk).1
        have hsk : specs[k] = .val v := by
          have := List.getElem?_eq_getElem hkn
          rw [hks] at this
          exact (Option.some.inj this).symm
        exact ih _ _ W (by have := left_set hil hun; omega) (m.next ok htr hst hkn hk hedge W v (hrf W) (by rw [hsk]; rfl))
      have hkl : ∀ i o, specs.length ≤ i → l0[i]? = some o → (∀ e ∈ o.after, Region.binds .any e = true → listed.getD e.on false = true) → ∀ j ∈ pre, listed.getD j false = true := by
        intro i o hi ho hedge j hj
        rw [hpk] at hj
        obtain rfl := List.mem_singleton.1 hj
        have hil : j < l0.length := (List.getElem?_eq_some_iff.1 hk).1
        rcases listed_cases (listed := listed) (i := j) (by rw [m.size]; exact hil) with h1 | h1
        · exact h1
        · refine absurd (mem_ready.2 ⟨h1, ok', by simpa using hk, fun e he hb => ?_⟩) hrk
          have hlt := ok.edge j ok' hk e he hb
          have := ok.tail i o hi ho e.on (by omega)
          rcases this with h2 | h2
          · rw [hpk] at h2
            have := List.mem_singleton.1 h2
            omega
          · exact listed_anc m.closed 16 o e.on hedge h2
      refine ⟨fun h0 => ?_, fun i hi => ?_⟩
      · refine absurd (fun j => ?_) hall
        induction j using Nat.strongRecOn with
        | _ j ihj =>
          intro hj
          have hjl : j < l0.length := by have := ok.len; omega
          have hoj : l0[j]? = some l0[j] := List.getElem?_eq_getElem hjl
          rcases listed_cases (listed := listed) (i := j) (by rw [m.size]; exact hjl) with h1 | h1
          · exact h1
          · have hm : j ∈ Region.ready .any l0.toArray listed := mem_ready.2 ⟨h1, l0[j], by simp [hjl], fun e he hb => by
              have := ok.edge j _ hoj e he hb
              exact ihj e.on this (by omega)⟩
            rw [h0] at hm
            cases hm
      · obtain ⟨hun, o, ho', hedge⟩ := mem_ready.1 hi
        have hil : i < l0.length := by have := lt_of_unlisted hun; rw [m.size] at this; exact this
        have hn : i < specs.length := by
          rcases Nat.lt_or_ge i specs.length with h1 | h1
          · exact h1
          · exact absurd (fun j hj => (ok.tail i o h1 (by simpa using ho') j (by omega)).elim (fun hp => hkl i o h1 (by simpa using ho') hedge j hp) (listed_anc m.closed 16 o j hedge)) hall
        exact wpOp_mono (fun a' W' m' => ih _ a' W' (by have := left_set hil hun; omega) m') (m.step ok hrf htr hst h hn hi)
theorem region_late {id : Nat} {l : List Oper} {a : Act} {w : World} (R : World → World → Prop) (specs : List FSpec) (k : Nat) (ok : Oper) (d : Tmp) (v : Value) (hm : P.follows .mixedOrders = true) (hok : okFree [k] specs.length a.tmps.size l = true)
    (hk : l[k]? = some ok) (hd : ok.dst = some d) (hs : specs[k]? = some (.val v)) (hns : Region.noSelect l.toArray = true)
    (hf : Region.free .any l.toArray (((List.range l.toArray.size).map fun j => hasEdge ok j).toArray) k = true) (hQ : ∀ c a w, Q (.panic c) (a.put ok.dst v) w → Q (.panic c) a w)
    (hy : ∀ (a : Act) (W : World), R w W → (∀ j s oj dj, specs[j]? = some s → l[j]? = some oj → oj.dst = some dj → hasEdge ok j = true → s.ok W (a.tmps.getD dj undef)) → Yields P l.toArray ok v a)
    (hrf : ∀ a, R a a) (htr : ∀ a b c, R a b → R b c → R a c) (hdr : ∀ a, R a a.drew) (hst : ∀ s ∈ specs, ∀ W W' v, R W W' → s.ok W v → s.ok W' v)
    (h : freeSteps P l R w Q 0 specs l a []) : (Code.region id l.toArray true).wp P Q a w := by
  refine wp_region_any hm ?_
  have hget : ∀ i : Nat, (Array.replicate l.toArray.size false).getD i false = false := by
    intro i
    rw [Array.getD_eq_getD_getElem?, Array.getElem?_replicate]
    split <;> rfl
  refine free_any rfl hk hd hs hns hf hQ hy (okFree_spec hok) hrf htr hst h _ _ _ _ ?_ ⟨by simp, hdr w, rfl, rfl, ?_, ?_, ?_, ?_⟩
  · unfold left
    refine Nat.le_trans (List.length_filter_le _ _) ?_
    simp
  · intro i o hi
    rw [hget] at hi; cases hi
  · intro t _; rfl
  · intro j o d s hj
    rw [hget] at hj; cases hj
  · intro j _
    exact hget j
end
end Go.Proofs.YtpmfohhpaoagfaaGreat.Late
namespace Go.Proofs.YtpmfohhpaoagfaaGreat
open Go Go.RowKit Go.Proofs
/-- A value of api.Frac with limbs of whatever number. -/
def RawF (w : World) (v : Value) : Prop :=
  ∃ b1 a1 c1 b2 a2 c2, ∃ l1 l2 : List Nat, v = .agg #[.bool b1, .slice a1 l1.length c1, .bool b2, .slice a2 l2.length c2] ∧ l1.length ≤ 140737488355328 ∧ l2.length ≤ 140737488355328 ∧
    AnyR w (.agg #[.bool b1, .slice a1 l1.length c1]) b1 l1 ∧ AnyR w (.agg #[.bool b2, .slice a2 l2.length c2]) b2 l2
theorem RawF.opened {w : World} {v : Value} (h : RawF w v) : ∃ b1 a1 n1 c1 b2 a2 n2 c2, v = .agg #[.bool b1, .slice a1 n1 c1, .bool b2, .slice a2 n2 c2] ∧ n1 ≤ 140737488355328 ∧ n2 ≤ 140737488355328 ∧
    (n1 ≤ 4294967296 → n2 ≤ 4294967296 → ∃ o, AnyF w (.agg #[.bool b1, .slice a1 n1 c1, .bool b2, .slice a2 n2 c2]) o) := by
  obtain ⟨b1, a1, c1, b2, a2, c2, l1, l2, h0, h1, h2, h3, h4⟩ := h
  exact ⟨b1, a1, _, c1, b2, a2, _, c2, h0, h1, h2, fun g1 g2 => ⟨_, b1, l1, b2, l2, ⟨a1, c1, a2, c2, rfl, g1, g2, h3, h4⟩, rfl⟩⟩
theorem lf_one {w : World} {g : Nat} {b1 b2 : Bool} {a1 a2 : Option Addr} {n1 c1 n2 c2 : Nat} {o : Option Rat} {T : Nat} (hg : w.heap[g]? = some (.cells #[.bool b1, .slice a1 n1 c1, .bool b2, .slice a2 n2 c2] T (0, 0)))
    (h : AnyF w (.agg #[.bool b1, .slice a1 n1 c1, .bool b2, .slice a2 n2 c2]) o) : LF w g [o] := by
  intro k hk
  obtain rfl : k = 0 := by simpa using hk
  have := row4_cells hg
  exact ⟨_, _, _, _, _, _, _, _, this.1, this.2.1, this.2.2.1, this.2.2.2, h⟩
theorem fst_any {ss : List Fresh.FSpec} (o : Option Rat) (h : Fresh.StableAll Ext ss) : Fresh.StableAll Ext (.pred (fun W v => AnyF W v o) :: ss) := ⟨fun _ _ _ e h => AnyF.ext h e, h⟩
theorem fst_pair {ss : List Fresh.FSpec} (o : Option Rat) (c : Int) (h : Fresh.StableAll Ext ss) : Fresh.StableAll Ext (.pred (PairF o c) :: ss) := ⟨fun _ _ _ e h => by obtain ⟨x, h1, h2⟩ := h; exact ⟨x, h1, h2.ext e⟩, h⟩
theorem st_var {ss : List FSpec} (b : Nat) (cs : Array Value) (T : TypeId) (h : StableAll Ext ss) : StableAll Ext (.pred (VarAt b cs T) :: ss) := ⟨fun _ _ _ e h => VarAt.ext h e, h⟩
theorem whole_one : Rat.divInt 1 1 = 1 := by kernel_rfl
/-- What Pell's law rests on: where nothing is refused, the difference is one. -/
theorem pell_plain {n : Int} {o : Option Rat} (hn : 1 ≤ n) (e1 : chE n o = 0) (e2 : chE (n - 1) o = 0) (e3 : opE (fun x y => x * y) (chT n o) (chT n o) = 0) (e4 : opE (fun x y => x * y) (chU (n - 1) o) (chU (n - 1) o) = 0)
    (e5 : opE (fun x y => x * y) o o = 0) (e6 : opE (fun x y => x - y) (opO (fun x y => x * y) o o) (some 1) = 0) (e7 : opE (fun x y => x * y) (opO (fun x y => x - y) (opO (fun x y => x * y) o o) (some 1)) (opO (fun x y => x * y) (chU (n - 1) o) (chU (n - 1) o)) = 0)
    (e8 : opE (fun x y => x - y) (opO (fun x y => x * y) (chT n o) (chT n o)) (opO (fun x y => x * y) (opO (fun x y => x - y) (opO (fun x y => x * y) o o) (some 1)) (opO (fun x y => x * y) (chU (n - 1) o) (chU (n - 1) o))) = 0) :
    opO (fun x y => x - y) (opO (fun x y => x * y) (chT n o) (chT n o)) (opO (fun x y => x * y) (opO (fun x y => x - y) (opO (fun x y => x * y) o o) (some 1)) (opO (fun x y => x * y) (chU (n - 1) o) (chU (n - 1) o))) = some 1 := by
  obtain ⟨x, rfl, _, _, _, h1⟩ := chE_ok e1
  obtain ⟨x', hx', _, _, h2, _⟩ := chE_ok e2
  cases hx'
  rw [h1] at e3 e8 ⊢
  rw [h2] at e4 e7 e8 ⊢
  obtain ⟨_, _, q1, q2, h3⟩ := opE_ok e3
  cases q1
  cases q2
  obtain ⟨_, _, q1, q2, h4⟩ := opE_ok e4
  cases q1
  cases q2
  obtain ⟨_, _, q1, q2, h5⟩ := opE_ok e5
  cases q1
  cases q2
  rw [h5] at e6 e7 e8 ⊢
  obtain ⟨_, _, q1, q2, h6⟩ := opE_ok e6
  cases q1
  cases q2
  rw [h3] at e8 ⊢
  rw [h4, h6] at e7 e8 ⊢
  obtain ⟨_, _, q1, q2, h7⟩ := opE_ok e7
  cases q1
  cases q2
  rw [h7] at e8 ⊢
  obtain ⟨_, _, q1, q2, h8⟩ := opE_ok e8
  cases q1
  cases q2
  rw [h8]
  obtain ⟨k, rfl⟩ : ∃ k : Nat, n = ((k + 1 : Nat) : Int) := ⟨(n - 1).toNat, by omega⟩
  have hp := cheb_pell x k
  rw [show ((k + 1 : Nat) : Int).toNat = k + 1 by omega, show (((k + 1 : Nat) : Int) - 1).toNat = k by omega]
  rw [hp]
theorem pell_plain2 {n m NM : Int} {o : Option Rat} (hn : 0 ≤ n) (hm : 0 ≤ m) (hNM : n * m = NM) (e1 : chE n o = 0) (e9 : chE NM o = 0) (e10 : chE m (chT n o) = 0) : ∃ y, chT NM o = some y ∧ chT m (chT n o) = some y := by
  obtain ⟨x, rfl, _, _, _, h1⟩ := chE_ok e1
  obtain ⟨x', hx', _, _, _, h2⟩ := chE_ok e9
  cases hx'
  rw [h1] at e10 ⊢
  obtain ⟨x', hx', _, _, _, h3⟩ := chE_ok e10
  cases hx'
  refine ⟨_, h2, ?_⟩
  rw [h3]
  obtain ⟨a, rfl⟩ := Int.eq_ofNat_of_zero_le hn
  obtain ⟨b, rfl⟩ := Int.eq_ofNat_of_zero_le hm
  have e : NM.toNat = a * b := by
    rw [← hNM, ← Int.natCast_mul]
    rfl
  have := (chebT_mul x a b).1
  rw [e]
  show some (chebT b (chebT a x)) = _
  rw [this]
end Go.Proofs.YtpmfohhpaoagfaaGreat
namespace Go.Proofs.YtpmfohhpaoagfaaGreat
open Go Go.ChangeShapes Go.WideShapes Go.ChangeAt Go.RowKit Go.Joins Go.Deep
theorem cells_u32 : Tryz.prog.cellsOf 85 = 1 := by kernel_rfl
theorem bytes_u32 : Tryz.prog.bytesOf 85 = 4 := by kernel_rfl
theorem cells_bool : Tryz.prog.cellsOf 4 = 1 := by kernel_rfl
theorem cells_mag : Tryz.prog.cellsOf 22 = 1 := by kernel_rfl
theorem cells_int : Tryz.prog.cellsOf 24 = 2 := by kernel_rfl
theorem cells_frac : Tryz.prog.cellsOf 26 = 4 := by kernel_rfl
theorem cells_mat : Tryz.prog.cellsOf 28 = 16 := by kernel_rfl
theorem cells_ray : Tryz.prog.cellsOf 30 = 8 := by kernel_rfl
theorem reach_le : reachBytes ≤ 140737488355328 := Nat.le_trans (Nat.le_of_lt reachBytes_lt) (Nat.le_of_eq (by kernel_rfl))
section
variable {H : Type} {enc : TypeId × Value → H} {w : World} {base : Nat} {spare : Nat → Bool} {held : Bool}
theorem open_mag {fuel : Nat} {cs : List Value} {x : DataW H × List MemPlace} (h : DataW.trod enc Tryz.prog w base spare held fuel 22 cs = some x) :
    ∃ (a : Option Addr) (c : Nat) (l : List Nat), cs = [.slice a l.length c] ∧ OkL l ∧ l.length ≤ c ∧ Row w a (limV l) ∧ ∀ M, (∀ k ∈ x.1.weights Tryz.prog 22, k ≤ M) → l.length * 4 ≤ M := by
  rcases open_slice Tryz.underlying22 h with ⟨rfl, _⟩ | ⟨a, len, cap, m, n, D, Pl, rfl, hb, hl, hm, hmm, rfl, hi⟩
  · exact ⟨none, 0, [], rfl, okL_nil, Nat.le_refl _, row_nil w, fun M _ => by simp⟩
  · have hlm : len ≤ m := by rw [hmm]; split <;> omega
    have hcell : ∀ i, i < len → ∃ b : Nat, b < 4294967296 ∧ w.cell? (a.add i) = some (.int .u32 (b : Int)) := by
      intro i hlt
      obtain ⟨cs', h1, h2⟩ := hi i (by omega)
      obtain ⟨b, rfl, _, hwf⟩ := DataW.trod_int Tryz.underlying85 h2
      rw [cells_u32] at h1
      obtain ⟨_, _, hat⟩ := World.cells?_some h1
      have := hat 0 (by omega)
      have hb2 : 0 ≤ b ∧ b ≤ 4294967295 := by
        have h : IntKind.u32.min ≤ b ∧ b ≤ IntKind.u32.max := by simpa [Lit.wf] using hwf
        have e1 : IntKind.u32.min = 0 := rfl
        have e2 : IntKind.u32.max = 4294967295 := rfl
        omega
      obtain ⟨b', rfl⟩ := Int.eq_ofNat_of_zero_le hb2.1
      refine ⟨b', by omega, ?_⟩
      simpa [Addr.add] using this
    have hlist : (List.range len).map (fun i => match w.cell? (a.add i) with | some (.int _ b) => b.toNat | _ => 0) = (List.range len).map (fun i => match w.cell? (a.add i) with | some (.int _ b) => b.toNat | _ => 0) := rfl
    refine ⟨some a, cap, (List.range len).map (fun i => match w.cell? (a.add i) with | some (.int _ b) => b.toNat | _ => 0), by simp, ?_, by simpa using hl, ?_, ?_⟩
    · intro y hy
      obtain ⟨i, hi', rfl⟩ := List.mem_map.1 hy
      obtain ⟨b, hb1, hb2⟩ := hcell i (List.mem_range.1 hi')
      simp only [hb2]
      simpa using hb1
    · refine ⟨a.block, a.off, fun hne => ?_, fun j hj => ?_⟩
      · have h0 : 0 < len := by
          rcases Nat.eq_zero_or_pos len with h | h
          · subst h; simp [limV] at hne
          · exact h
        obtain ⟨b, _, hb'⟩ := hcell 0 h0
        obtain ⟨bl, of, sp⟩ := a
        have : sp = none := by simpa [Addr.add] using World.cell?_spot hb'
        subst this
        rfl
      · have hj' : j < len := by simpa [limV] using hj
        obtain ⟨b, _, hb'⟩ := hcell j hj'
        have hadd : a.add j = ⟨a.block, a.off + j, none⟩ := by
          obtain ⟨bl, of, sp⟩ := a
          have : sp = none ∨ j ≠ 0 := by
            rcases Nat.eq_zero_or_pos j with h | h
            · subst h
              exact .inl (by simpa [Addr.add] using World.cell?_spot hb')
            · exact .inr (by omega)
          unfold Addr.add
          split
          · rename_i h
            rcases this with h2 | h2
            · simp [h, h2]
            · exact absurd h h2
          · rfl
        rw [← hadd, hb']
        simp [limV, hj', hb']
    · intro M hM
      have := hM ((len + (m - len)) * Tryz.prog.bytesOf 85) (by simp [DataW.weights, Tryz.underlying22])
      rw [bytes_u32] at this
      simp only [List.length_map, List.length_range]
      omega
theorem list_two {α : Type} {l : List α} (h : l.length = 2) : ∃ a b, l = [a, b] := by
  match l, h with
  | [a, b], _ => exact ⟨a, b, rfl⟩
theorem list_four {α : Type} {l : List α} (h : l.length = 4) : ∃ a b c d, l = [a, b, c, d] := by
  match l, h with
  | [a, b, c, d], _ => exact ⟨a, b, c, d, rfl⟩
theorem open_int2 {fuel : Nat} {cs : List Value} {x : DataW H × List MemPlace} (h : DataW.trod enc Tryz.prog w base spare held fuel 24 cs = some x) :
    ∃ (b : Bool) (a : Option Addr) (c : Nat) (l : List Nat), cs = [.bool b, .slice a l.length c] ∧ OkL l ∧ l.length ≤ c ∧ Row w a (limV l) ∧ ∀ M, (∀ k ∈ x.1.weights Tryz.prog 24, k ≤ M) → l.length * 4 ≤ M := by
  obtain ⟨xs, n, _, rfl, hlen, hxl, hf⟩ := DataW.trod_struct Tryz.underlying24 h
  rw [cells_int] at hlen
  obtain ⟨c0, c1, rfl⟩ := list_two hlen
  obtain ⟨y0, y1, rfl⟩ := list_two hxl
  have h0 : DataW.trod enc Tryz.prog w base spare held n 4 (([c0, c1].drop 0).take (Tryz.prog.cellsOf 4)) = some y0 := hf 0 _ rfl
  have h1 : DataW.trod enc Tryz.prog w base spare held n 22 (([c0, c1].drop 1).take (Tryz.prog.cellsOf 22)) = some y1 := hf 1 _ rfl
  rw [cells_bool] at h0
  rw [cells_mag] at h1
  obtain ⟨b, hb, _⟩ := DataW.trod_bool Tryz.underlying4 h0
  obtain ⟨a, c, l, hs, hk, hc, hr, hM⟩ := open_mag h1
  simp at hb hs
  subst hb hs
  refine ⟨b, a, c, l, rfl, hk, hc, hr, fun M h => hM M fun k hk => h k ?_⟩
  simp [DataW.weights, Tryz.underlying24, DataW.weightsEach, hk]
theorem open_frac4 {fuel : Nat} {cs : List Value} {x : DataW H × List MemPlace} (h : DataW.trod enc Tryz.prog w base spare held fuel 26 cs = some x) :
    ∃ v1 v2 v3 v4, cs = [v1, v2, v3, v4] ∧ ∀ M, (∀ k ∈ x.1.weights Tryz.prog 26, k ≤ M) → M ≤ 140737488355328 → RawF w (.agg #[v1, v2, v3, v4]) := by
  obtain ⟨xs, n, _, rfl, hlen, hxl, hf⟩ := DataW.trod_struct Tryz.underlying26 h
  rw [cells_frac] at hlen
  obtain ⟨c0, c1, c2, c3, rfl⟩ := list_four hlen
  obtain ⟨y0, y1, rfl⟩ := list_two hxl
  have h0 : DataW.trod enc Tryz.prog w base spare held n 24 (([c0, c1, c2, c3].drop 0).take (Tryz.prog.cellsOf 24)) = some y0 := hf 0 _ rfl
  have h1 : DataW.trod enc Tryz.prog w base spare held n 24 (([c0, c1, c2, c3].drop 2).take (Tryz.prog.cellsOf 24)) = some y1 := hf 1 _ rfl
  rw [cells_int] at h0 h1
  obtain ⟨b1, a1, m1, l1, hs1, hk1, hc1, hr1, hM1⟩ := open_int2 h0
  obtain ⟨b2, a2, m2, l2, hs2, hk2, hc2, hr2, hM2⟩ := open_int2 h1
  simp at hs1 hs2
  obtain ⟨rfl, rfl⟩ := hs1
  obtain ⟨rfl, rfl⟩ := hs2
  refine ⟨_, _, _, _, rfl, fun M h hM => ?_⟩
  have g1 := hM1 M fun k hk => h k (by simp [DataW.weights, Tryz.underlying26, DataW.weightsEach, hk])
  have g2 := hM2 M fun k hk => h k (by simp [DataW.weights, Tryz.underlying26, DataW.weightsEach, hk])
  exact ⟨b1, a1, m1, b2, a2, m2, l1, l2, rfl, by omega, by omega, ⟨a1, m1, rfl, hk1, hc1, hr1⟩, ⟨a2, m2, rfl, hk2, hc2, hr2⟩⟩
set_option maxRecDepth 100000 in
/-- A fraction that came in. -/
theorem rawF_of {r : Reach} {b0 : Nat} {v : Value} {d : DataW H} {p : List MemPlace} (hv : Value.okWide Tryz.prog w r b0 26 v) (h : DataW.Trod enc Tryz.prog w base spare held 26 v d p)
    (hM : ∀ k ∈ d.weights Tryz.prog 26, k ≤ reachBytes) : RawF w v := by
  obtain ⟨cs, rfl, _⟩ := okWide_struct Tryz.underlying26 hv
  obtain ⟨fuel, hh⟩ := h
  obtain ⟨v1, v2, v3, v4, hcs, hR⟩ := open_frac4 hh
  have : cs = #[v1, v2, v3, v4] := by
    apply Array.toList_inj.1
    simpa [Value.cells] using hcs
  subst this
  exact hR reachBytes hM reach_le
end
end Go.Proofs.YtpmfohhpaoagfaaGreat
namespace Go.Proofs.YtpmfohhpaoagfaaGreat
open Go Go.RowKit Go.Proofs
/-- A value of api.Matrix, of api.Ray, with limbs of whatever number. -/
def RawM (w : World) (v : Value) : Prop :=
  ∃ v1 v2 v3 v4 v5 v6 v7 v8 v9 v10 v11 v12 v13 v14 v15 v16, v = .agg #[v1, v2, v3, v4, v5, v6, v7, v8, v9, v10, v11, v12, v13, v14, v15, v16] ∧ RawF w (.agg #[v1, v2, v3, v4]) ∧ RawF w (.agg #[v5, v6, v7, v8]) ∧ RawF w (.agg #[v9, v10, v11, v12]) ∧ RawF w (.agg #[v13, v14, v15, v16])
def RawY (w : World) (v : Value) : Prop :=
  ∃ v1 v2 v3 v4 v5 v6 v7 v8, v = .agg #[v1, v2, v3, v4, v5, v6, v7, v8] ∧ RawF w (.agg #[v1, v2, v3, v4]) ∧ RawF w (.agg #[v5, v6, v7, v8])
end Go.Proofs.YtpmfohhpaoagfaaGreat
namespace Go.Proofs.YtpmfohhpaoagfaaGreat
open Go Go.ChangeShapes Go.WideShapes Go.ChangeAt Go.RowKit Go.Joins Go.Deep
section
variable {H : Type} {enc : TypeId × Value → H} {w : World} {base : Nat} {spare : Nat → Bool} {held : Bool}
theorem list_16 {α : Type} {l : List α} (h : l.length = 16) : ∃ c0 c1 c2 c3 c4 c5 c6 c7 c8 c9 c10 c11 c12 c13 c14 c15, l = [c0, c1, c2, c3, c4, c5, c6, c7, c8, c9, c10, c11, c12, c13, c14, c15] := by
  match l, h with
  | [c0, c1, c2, c3, c4, c5, c6, c7, c8, c9, c10, c11, c12, c13, c14, c15], _ => exact ⟨c0, c1, c2, c3, c4, c5, c6, c7, c8, c9, c10, c11, c12, c13, c14, c15, rfl⟩
theorem open_mat {fuel : Nat} {cs : List Value} {x : DataW H × List MemPlace} (h : DataW.trod enc Tryz.prog w base spare held fuel 28 cs = some x) :
    ∃ v1 v2 v3 v4 v5 v6 v7 v8 v9 v10 v11 v12 v13 v14 v15 v16, cs = [v1, v2, v3, v4, v5, v6, v7, v8, v9, v10, v11, v12, v13, v14, v15, v16] ∧ ∀ M, (∀ k ∈ x.1.weights Tryz.prog 28, k ≤ M) → M ≤ 140737488355328 → RawM w (.agg #[v1, v2, v3, v4, v5, v6, v7, v8, v9, v10, v11, v12, v13, v14, v15, v16]) := by
  obtain ⟨xs, n, _, rfl, hlen, hxl, hf⟩ := DataW.trod_struct Tryz.underlying28 h
  rw [cells_mat] at hlen
  obtain ⟨c0, c1, c2, c3, c4, c5, c6, c7, c8, c9, c10, c11, c12, c13, c14, c15, rfl⟩ := list_16 hlen
  obtain ⟨y0, y1, y2, y3, rfl⟩ := list_four hxl
  have h0 : DataW.trod enc Tryz.prog w base spare held n 26 (([c0, c1, c2, c3, c4, c5, c6, c7, c8, c9, c10, c11, c12, c13, c14, c15].drop 0).take (Tryz.prog.cellsOf 26)) = some y0 := hf 0 _ rfl
  have h1 : DataW.trod enc Tryz.prog w base spare held n 26 (([c0, c1, c2, c3, c4, c5, c6, c7, c8, c9, c10, c11, c12, c13, c14, c15].drop 4).take (Tryz.prog.cellsOf 26)) = some y1 := hf 1 _ rfl
  have h2 : DataW.trod enc Tryz.prog w base spare held n 26 (([c0, c1, c2, c3, c4, c5, c6, c7, c8, c9, c10, c11, c12, c13, c14, c15].drop 8).take (Tryz.prog.cellsOf 26)) = some y2 := hf 2 _ rfl
  have h3 : DataW.trod enc Tryz.prog w base spare held n 26 (([c0, c1, c2, c3, c4, c5, c6, c7, c8, c9, c10, c11, c12, c13, c14, c15].drop 12).take (Tryz.prog.cellsOf 26)) = some y3 := hf 3 _ rfl
  rw [cells_frac] at h0 h1 h2 h3
  obtain ⟨v1, v2, v3, v4, e0, f0⟩ := open_frac4 h0
  have e0' : [c0, c1, c2, c3] = [v1, v2, v3, v4] := e0
  simp only [List.cons.injEq, and_true] at e0'
  obtain ⟨rfl, rfl, rfl, rfl⟩ := e0'
  obtain ⟨v5, v6, v7, v8, e1, f1⟩ := open_frac4 h1
  have e1' : [c4, c5, c6, c7] = [v5, v6, v7, v8] := e1
  simp only [List.cons.injEq, and_true] at e1'
  obtain ⟨rfl, rfl, rfl, rfl⟩ := e1'
  obtain ⟨v9, v10, v11, v12, e2, f2⟩ := open_frac4 h2
  have e2' : [c8, c9, c10, c11] = [v9, v10, v11, v12] := e2
  simp only [List.cons.injEq, and_true] at e2'
  obtain ⟨rfl, rfl, rfl, rfl⟩ := e2'
  obtain ⟨v13, v14, v15, v16, e3, f3⟩ := open_frac4 h3
  have e3' : [c12, c13, c14, c15] = [v13, v14, v15, v16] := e3
  simp only [List.cons.injEq, and_true] at e3'
  obtain ⟨rfl, rfl, rfl, rfl⟩ := e3'
  refine ⟨_, _, _, _, _, _, _, _, _, _, _, _, _, _, _, _, rfl, fun M h hM => ⟨_, _, _, _, _, _, _, _, _, _, _, _, _, _, _, _, rfl, f0 M (fun k hk => h k (by simp [DataW.weights, Tryz.underlying28, DataW.weightsEach, hk])) hM, f1 M (fun k hk => h k (by simp [DataW.weights, Tryz.underlying28, DataW.weightsEach, hk])) hM, f2 M (fun k hk => h k (by simp [DataW.weights, Tryz.underlying28, DataW.weightsEach, hk])) hM, f3 M (fun k hk => h k (by simp [DataW.weights, Tryz.underlying28, DataW.weightsEach, hk])) hM⟩⟩
set_option maxRecDepth 100000 in
theorem rawM_of {r : Reach} {b0 : Nat} {v : Value} {d : DataW H} {p : List MemPlace} (hv : Value.okWide Tryz.prog w r b0 28 v) (h : DataW.Trod enc Tryz.prog w base spare held 28 v d p)
    (hM : ∀ k ∈ d.weights Tryz.prog 28, k ≤ reachBytes) : RawM w v := by
  obtain ⟨cs, rfl, _⟩ := okWide_struct Tryz.underlying28 hv
  obtain ⟨fuel, hh⟩ := h
  obtain ⟨v1, v2, v3, v4, v5, v6, v7, v8, v9, v10, v11, v12, v13, v14, v15, v16, hcs, hR⟩ := open_mat hh
  have : cs = #[v1, v2, v3, v4, v5, v6, v7, v8, v9, v10, v11, v12, v13, v14, v15, v16] := by
    apply Array.toList_inj.1
    simpa [Value.cells] using hcs
  subst this
  exact hR reachBytes hM reach_le
theorem list_8 {α : Type} {l : List α} (h : l.length = 8) : ∃ c0 c1 c2 c3 c4 c5 c6 c7, l = [c0, c1, c2, c3, c4, c5, c6, c7] := by
  match l, h with
  | [c0, c1, c2, c3, c4, c5, c6, c7], _ => exact ⟨c0, c1, c2, c3, c4, c5, c6, c7, rfl⟩
theorem open_ray {fuel : Nat} {cs : List Value} {x : DataW H × List MemPlace} (h : DataW.trod enc Tryz.prog w base spare held fuel 30 cs = some x) :
    ∃ v1 v2 v3 v4 v5 v6 v7 v8, cs = [v1, v2, v3, v4, v5, v6, v7, v8] ∧ ∀ M, (∀ k ∈ x.1.weights Tryz.prog 30, k ≤ M) → M ≤ 140737488355328 → RawY w (.agg #[v1, v2, v3, v4, v5, v6, v7, v8]) := by
  obtain ⟨xs, n, _, rfl, hlen, hxl, hf⟩ := DataW.trod_struct Tryz.underlying30 h
  rw [cells_ray] at hlen
  obtain ⟨c0, c1, c2, c3, c4, c5, c6, c7, rfl⟩ := list_8 hlen
  obtain ⟨y0, y1, rfl⟩ := list_two hxl
  have h0 : DataW.trod enc Tryz.prog w base spare held n 26 (([c0, c1, c2, c3, c4, c5, c6, c7].drop 0).take (Tryz.prog.cellsOf 26)) = some y0 := hf 0 _ rfl
  have h1 : DataW.trod enc Tryz.prog w base spare held n 26 (([c0, c1, c2, c3, c4, c5, c6, c7].drop 4).take (Tryz.prog.cellsOf 26)) = some y1 := hf 1 _ rfl
  rw [cells_frac] at h0 h1
  obtain ⟨v1, v2, v3, v4, e0, f0⟩ := open_frac4 h0
  have e0' : [c0, c1, c2, c3] = [v1, v2, v3, v4] := e0
  simp only [List.cons.injEq, and_true] at e0'
  obtain ⟨rfl, rfl, rfl, rfl⟩ := e0'
  obtain ⟨v5, v6, v7, v8, e1, f1⟩ := open_frac4 h1
  have e1' : [c4, c5, c6, c7] = [v5, v6, v7, v8] := e1
  simp only [List.cons.injEq, and_true] at e1'
  obtain ⟨rfl, rfl, rfl, rfl⟩ := e1'
  refine ⟨_, _, _, _, _, _, _, _, rfl, fun M h hM => ⟨_, _, _, _, _, _, _, _, rfl, f0 M (fun k hk => h k (by simp [DataW.weights, Tryz.underlying30, DataW.weightsEach, hk])) hM, f1 M (fun k hk => h k (by simp [DataW.weights, Tryz.underlying30, DataW.weightsEach, hk])) hM⟩⟩
set_option maxRecDepth 100000 in
theorem rawY_of {r : Reach} {b0 : Nat} {v : Value} {d : DataW H} {p : List MemPlace} (hv : Value.okWide Tryz.prog w r b0 30 v) (h : DataW.Trod enc Tryz.prog w base spare held 30 v d p)
    (hM : ∀ k ∈ d.weights Tryz.prog 30, k ≤ reachBytes) : RawY w v := by
  obtain ⟨cs, rfl, _⟩ := okWide_struct Tryz.underlying30 hv
  obtain ⟨fuel, hh⟩ := h
  obtain ⟨v1, v2, v3, v4, v5, v6, v7, v8, hcs, hR⟩ := open_ray hh
  have : cs = #[v1, v2, v3, v4, v5, v6, v7, v8] := by
    apply Array.toList_inj.1
    simpa [Value.cells] using hcs
  subst this
  exact hR reachBytes hM reach_le
end
end Go.Proofs.YtpmfohhpaoagfaaGreat
namespace Go.Proofs.YtpmfohhpaoagfaaGreat
open Go Go.RowKit Go.Proofs
theorem magR_nil (w : World) : MagR w (.slice none 0 0) [] := ⟨none, 0, rfl, Nat.le_refl _, row_nil w⟩
set_option maxHeartbeats 800000 in
theorem rtrim_c (a : Option Addr) (l : List Nat) (c : Nat) (w : World) (hok : OkL l) (hlen : l.length ≤ 4294967296) (hcap : l.length ≤ c) (h : Row w a (limV l)) :
    Calls Tryz.prog 124 #[.slice a l.length c] w fun e w' => e = .returned (.slice a (lim (val l)).length c) ∧ w = w' := by
  obtain ⟨b, off, ha, hc⟩ := h
  replace hc := mkHid hc
  replace ha := mkHid ha
  go_enter Tryz.func124, Tryz.ntmps124
  go_wp2_with fail
  go_loop [0] (fun s => ∃ m : Nat, m ≤ l.length ∧ s = .slice a m c ∧ val (l.take m) = val l) (fun s => match s with | .slice _ n _ => n | _ => 0)
  case atStart => exact ⟨l.length, Nat.le_refl _, rfl, by rw [List.take_length]⟩
  case round =>
    obtain ⟨m, hm, rfl, hv⟩ := hrel
    replace hv := mkHid hv
    by_cases h0 : m = 0
    · subst h0
      have e0 : lim (val l) = [] := by rw [← hv.out, List.take_zero]; exact lim_zero
      replace e0 := mkHid (congrArg List.length e0)
      go_wp2_with fail
      go_ret
      exact ⟨by rw [e0.out]; rfl, rfl⟩
    · obtain ⟨k, rfl⟩ : ∃ k, m = k + 1 := ⟨m - 1, by omega⟩
      have hcell := hc.out k (by rw [limV_length]; omega)
      rw [limV_getD _ _ (by omega)] at hcell
      have ha2 := ha.out (limV_ne (show k < l.length by omega))
      by_cases hz : l.getD k 0 = 0
      · have HV : Hid (val (l.take k) = val l) := by
          have := val_take_succ l k (by omega)
          rw [hz] at this
          exact mkHid (by rw [← hv.out, this]; simp)
        rw [hz] at hcell
        replace hz := mkHid hz
        rw [ha2]
        replace ha2 := mkHid ha2
        go_wp2_with fail
        go_round
        case rel => exact ⟨k, by omega, rfl, HV.out⟩
        case measure => simp
      · have e0 : lim (val l) = l.take (k + 1) := by
          rw [← hv.out]
          refine lim_val (okL_take hok _) (.inr ?_)
          rw [List.take_succ_eq_append_getElem (by omega), List.getLastD_eq_getLast?, List.getLast?_append]
          simpa [show k < l.length by omega] using hz
        have hn : (lim (val l)).length = k + 1 := by rw [e0, List.length_take]; omega
        have hz2 : (((l.getD k 0 : Nat) : Int) == 0) = false := by simpa using hz
        replace e0 := mkHid e0
        replace hn := mkHid hn
        replace hz := mkHid hz
        generalize l.getD k 0 = y at hcell hz2
        rw [ha2]
        replace ha2 := mkHid ha2
        go_wp2_with fail
        go_ret
        exact ⟨by rw [hn.out, ha2.out]; rfl, rfl⟩
set_option maxHeartbeats 800000 in
theorem rsigned_c (neg : Bool) (s : Value) (l : List Nat) (w : World) (hok : OkL l) (hlen : l.length ≤ 4294967296) (h : MagR w s l) :
    Calls Tryz.prog 108 #[.bool neg, s] w fun e w' => ∃ v, e = .returned v ∧ IntR w' v (sg neg (val l)) ∧ Ext w w' := by
  obtain ⟨a, c, rfl, hcap, hrow⟩ := h
  replace hrow := mkHid hrow
  have HT := fun w' (e : Row w' a (limV l)) => rtrim_c a l c w' hok hlen hcap e
  by_cases h0 : val l = 0
  · rw [h0, lim_zero] at HT
    have hr : ∀ w' : World, IntR w' (.agg #[.bool false, .slice none 0 0]) (sg neg (val l)) := fun w' =>
      ⟨.slice none 0 0, by rw [sg_neg, h0]; simp, by rw [sg_natAbs, h0, lim_zero]; exact magR_nil _⟩
    replace HT := mkHid HT
    clear h0
    go_enter Tryz.func108, Tryz.ntmps108
    go_wp2_with fail
    refine (HT.out _ (hrow.out.ext ((Ext.refl _).al _))).mono ?_
    rintro e w' ⟨rfl, rfl⟩
    go_wp2_with fail
    exact bodyPost_ret (v := .agg #[.bool false, .slice none 0 0]) (by simp [results, Tryz.results108, go_sem]) rfl ⟨_, rfl, hr _, (Ext.refl _).al _⟩
  · have hne : (((lim (val l)).length : Int) == 0) = false := by
      rw [lim_pos h0]
      simp
      omega
    have hr : ∀ w' : World, Ext w w' → IntR w' (.agg #[.bool neg, .slice a (lim (val l)).length c]) (sg neg (val l)) := fun w' e =>
      ⟨.slice a (lim (val l)).length c, by rw [sg_neg]; simp [h0], by rw [sg_natAbs]; exact MagR.ext ⟨_, _, rfl, Nat.le_trans (lim_length_val hok) hcap, hrow.out.lim hok⟩ e⟩
    replace HT := mkHid HT
    clear h0
    go_enter Tryz.func108, Tryz.ntmps108
    go_wp2_with fail
    refine (HT.out _ (hrow.out.ext ((Ext.refl _).al _))).mono ?_
    rintro e w' ⟨rfl, rfl⟩
    go_wp2_with fail
    exact bodyPost_ret (v := .agg #[.bool neg, .slice a (lim (val l)).length c]) (by simp [results, Tryz.results108, go_sem]) rfl ⟨_, rfl, hr _ ((Ext.refl _).al _), (Ext.refl _).al _⟩

theorem sgn_lt {m n : Nat} (h : m < n) : ((m : Int) - n).sign = -1 := Int.sign_eq_neg_one_of_neg (by omega)
theorem sgn_gt {m n : Nat} (h : n < m) : ((m : Int) - n).sign = 1 := Int.sign_eq_one_of_pos (by omega)
theorem sgn_eq {m n : Nat} (h : m = n) : ((m : Int) - n).sign = 0 := by subst h; simp
set_option maxHeartbeats 1600000 in
theorem rcmp_c (a a' : Option Addr) (c c' : Nat) (m n : Nat) (w : World) (hl : (lim m).length ≤ 4294967296) (hl' : (lim n).length ≤ 4294967296)
    (h : Row w a (limV (lim m))) (h' : Row w a' (limV (lim n))) :
    Calls Tryz.prog 122 #[.slice a (lim m).length c, .slice a' (lim n).length c'] w fun e w' => e = .returned (.int .i64 ((m : Int) - n).sign) ∧ Ext w w' := by
  obtain ⟨l, hlm⟩ : ∃ l, l = lim m := ⟨_, rfl⟩
  obtain ⟨l', hln⟩ : ∃ l', l' = lim n := ⟨_, rfl⟩
  have hok : OkL l := hlm ▸ lim_ok m
  have hok' : OkL l' := hln ▸ lim_ok n
  have hv : val l = m := by rw [hlm, val_lim]
  have hv' : val l' = n := by rw [hln, val_lim]
  rw [← hlm] at hl h ⊢
  rw [← hln] at hl' h' ⊢
  obtain ⟨R, hR⟩ : ∃ R, R = ((m : Int) - n).sign := ⟨_, rfl⟩
  have RL : m < n → R = -1 := fun h => hR ▸ sgn_lt h
  have RG : n < m → R = 1 := fun h => hR ▸ sgn_gt h
  have RE : m = n → R = 0 := fun h => hR ▸ sgn_eq h
  rw [← hR]
  clear hR
  by_cases hlen : l.length = l'.length
  · have hE : Hid (l.length = l'.length) := mkHid hlen
    obtain ⟨b, off, ha, hc⟩ := h
    obtain ⟨b', off', ha', hc'⟩ := h'
    replace ha := mkHid ha
    replace ha' := mkHid ha'
    replace hc := mkHid hc
    replace hc' := mkHid hc'
    replace hv := mkHid hv
    replace hv' := mkHid hv'
    replace RL := mkHid RL
    replace RG := mkHid RG
    replace RE := mkHid RE
    rw [← hlen]
    clear hlm hln hl' hlen
    go_enter Tryz.func122, Tryz.ntmps122
    go_wp2_with fail
    go_loopw [5] (fun i wr => ∃ k : Nat, k ≤ l.length ∧ i = .int .i64 ((k : Int) - 1) ∧ l.drop k = l'.drop k ∧ Ext w wr) (fun i _ => (intOf i + 1).toNat)
    case atStart => exact ⟨l.length, Nat.le_refl _, rfl, by rw [List.drop_length, hE.out, List.drop_length], Ext.refl _⟩
    case round =>
      obtain ⟨k, hk, rfl, hd, he⟩ := hrel
      replace hd := mkHid hd
      replace he := mkHid he
      by_cases h0 : k = 0
      · subst h0
        have e : l = l' := by simpa using hd.out
        have hr := RE.out (by rw [← hv.out, ← hv'.out, e])
        subst hr
        clear e
        go_wp2_with fail
        go_ret
        exact ⟨rfl, he.out⟩
      · obtain ⟨j, rfl⟩ : ∃ j, k = j + 1 := ⟨k - 1, by omega⟩
        have h1 := he.out.cell (hc.out j (by rw [limV_length]; omega))
        have h2 := he.out.cell (hc'.out j (by rw [limV_length]; have := hE.out; omega))
        rw [limV_getD _ _ (by omega)] at h1
        rw [limV_getD _ _ (by have := hE.out; omega)] at h2
        rw [ha.out (limV_ne (show j < l.length by omega)), ha'.out (limV_ne (show j < l'.length by have := hE.out; omega))]
        have hx1 : ((j + 1 : Nat) : Int) - 1 = (j : Int) := by omega
        rw [hx1]
        have d1 : l.drop j = l.getD j 0 :: l.drop (j + 1) := by
          rw [List.drop_eq_getElem_cons (show j < l.length by omega)]; simp [show j < l.length by omega]
        have d2 : l'.drop j = l'.getD j 0 :: l'.drop (j + 1) := by
          have := hE.out
          rw [List.drop_eq_getElem_cons (show j < l'.length by omega)]; simp [show j < l'.length by omega]
        have hlt : (l.getD j 0 < l'.getD j 0 → val l < val l') ∧ (l'.getD j 0 < l.getD j 0 → val l' < val l) :=
          ⟨val_lt_of hok j (by omega) hE.out hd.out, val_lt_of hok' j (by have := hE.out; omega) hE.out.symm hd.out.symm⟩
        replace hlt := mkHid hlt
        clear hx1
        rcases Nat.lt_trichotomy (l.getD j 0) (l'.getD j 0) with hy | hy | hy
        · have hr := RL.out (by rw [← hv.out, ← hv'.out]; exact hlt.out.1 hy)
          subst hr
          have hy2 : (((l.getD j 0 : Nat) : Int)) < ((l'.getD j 0 : Nat) : Int) := by omega
          clear d1 d2
          replace hy := mkHid hy
          generalize l.getD j 0 = y at h1 hy2
          generalize l'.getD j 0 = y' at h2 hy2
          go_wp2_with fail
          go_quiet (fail)
          go_wp2_with fail
          go_ret
          exact ⟨rfl, he.out.drN _⟩
        · have hdn : Hid (l.drop j = l'.drop j) := mkHid (by rw [d1, d2, hy, hd.out])
          rw [← hy] at h2
          clear d1 d2
          replace hy := mkHid hy
          generalize l.getD j 0 = y at h1 h2
          go_wp2_with fail
          go_quiet (fail)
          go_wp2_with fail
          go_quiet (fail)
          go_wp2_with fail
          go_roundw
          case rel => exact ⟨j, by omega, by go_num, hdn.out, he.out.drN _⟩
          case measure => simp [intOf] <;> omega
        · have hr := RG.out (by rw [← hv.out, ← hv'.out]; exact hlt.out.2 hy)
          subst hr
          have hy2 : ¬ ((((l.getD j 0 : Nat) : Int)) < ((l'.getD j 0 : Nat) : Int)) := by omega
          have hy3 : (((l'.getD j 0 : Nat) : Int)) < ((l.getD j 0 : Nat) : Int) := by omega
          clear d1 d2
          replace hy := mkHid hy
          generalize l.getD j 0 = y at h1 hy2 hy3
          generalize l'.getD j 0 = y' at h2 hy2 hy3
          go_wp2_with fail
          go_quiet (fail)
          go_wp2_with fail
          go_quiet (fail)
          go_wp2_with fail
          go_ret
          exact ⟨rfl, (he.out.drN _).drN _⟩
  · have hr : (l.length < l'.length → R = -1) ∧ (l'.length < l.length → R = 1) := by
      subst hlm
      subst hln
      exact ⟨fun h => RL (lt_of_lim_length h), fun h => RG (lt_of_lim_length h)⟩
    have hne : (((l.length : Nat) : Int) != ((l'.length : Nat) : Int)) = true := ne_cast hlen
    replace hr := mkHid hr
    clear RL RG RE hlm hln hok hok' hv hv' h h'
    by_cases hlt : l.length < l'.length
    · have hr1 := hr.out.1 hlt
      subst hr1
      replace hlen := mkHid hlen
      go_enter Tryz.func122, Tryz.ntmps122
      go_wp2_with fail
      go_ret
      exact ⟨rfl, Ext.refl _⟩
    · have hr1 := hr.out.2 (by omega)
      subst hr1
      replace hlen := mkHid hlen
      go_enter Tryz.func122, Tryz.ntmps122
      go_wp2_with fail
      go_ret
      exact ⟨rfl, Ext.refl _⟩
end Go.Proofs.YtpmfohhpaoagfaaGreat
