/-
  polestarref02: turned, Lowest. polestarref02: Plus, Turned, Minus, Times, Cmp, Same: printed by tools/gen_ref.py. polestarref02: Check, Checks.
-/
import Derived.Test.YtpmfohhpaoagfaaGreatMAL
import Derived.Test.YtpmfohhpaoagfaaGreatMAG
import Derived.Test.YtpmfohhpaoagfaaGreatMAF
namespace Go.Proofs.YtpmfohhpaoagfaaGreat
open Go Go.RowKit Go.Proofs
set_option maxRecDepth 100000 in
set_option maxHeartbeats 1600000 in
theorem rturn_c (v : Value) (X : Int) (w : World) (hX : nl X ≤ 268435456) (h : IntR w v X) :
    Calls Tryz.prog 116 #[v] w fun e w' => ∃ v, e = .returned v ∧ IntR w' v (-X) ∧ Ext w w' := by
  have H1 := mkHid h
  obtain ⟨b, a, n, c, rfl⟩ := h.shape
  have hm := mkHid (fun v0 W (e : Ext w W) h1 => rminusI_c v0 (.agg #[.bool b, .slice a n c]) 0 X W (by unfold nl; simp [lim_zero]) (by omega) h1 (h.ext e))
  rw [show (0 : Int) - X = -X by omega] at hm
  have ho := mkHid (fun w => rof_c 0 w (by omega) (by omega))
  clear h
  go_enter Tryz.func116, Tryz.ntmps116
  go_wp2_with fail
  obtain ⟨wb, hwb⟩ : ∃ wb, wb = (w.alloc (.cells #[.bool b, .slice a n c] 24)).alloc (.cells #[.bool false, .slice none 0 0] 24) := ⟨_, rfl⟩
  have hE : Ext w wb := by rw [hwb]; exact ((Ext.refl w).al _).al _
  have h00 : ∀ W, Ext wb W → W.cell? ⟨w.heap.size, 0, none⟩ = some (.bool b) := fun W e => e.cell (by rw [hwb]; go_simp)
  have h01 : ∀ W, Ext wb W → W.cell? ⟨w.heap.size, 1, none⟩ = some (.slice a n c) := fun W e => e.cell (by rw [hwb]; go_simp)
  have hB : wb.heap[w.heap.size + 1]? = some (.cells #[.bool false, .slice none 0 0] 24) := by rw [hwb]; exact heap_at _ _ _ (by simp)
  rw [← hwb]
  replace hB := mkHid hB
  replace hE := mkHid hE
  clear hwb
  apply region_ext [.pred (fun W v => IntR W v 0), .val _, .pred (fun W v => IntR W v (-X))] (by kernel_rfl) (st_intR _ (stable_vals _ (st_intR _ trivial)))
  refine ⟨fun W hW _ => ?g0, fun v0 => ?_⟩
  case g0 =>
    go_simp
    refine (ho.out W).mono ?_
    rintro e w' ⟨v, rfl, h1, h2⟩
    exact ⟨v, rfl, h2, h1⟩
  refine ⟨fun W hW _ => by go_simp; exact ⟨Ext.refl _, rfl⟩, ?_⟩
  refine ⟨fun W hW hF => ?g2, fun v2 => fun W hW hF => ?fin⟩
  case g2 =>
    have h0 : IntR W v0 0 := hF.1 (by kernel_rfl)
    replace h0 := mkHid h0
    clear hF
    go_simp
    refine (hm.out _ W (hE.out.trans hW) h0.out).mono ?_
    rintro e w' ⟨v, rfl, h1, h2⟩
    exact ⟨v, rfl, h2, h1⟩
  case fin =>
    have h2 : IntR W v2 (-X) := hF.1 rfl
    have hBW := hW.blk hB.out
    have hEW0 := hE.out.trans hW
    clear hF h00 h01 hm ho hW
    go_simp
    obtain ⟨nb, a2, n2, c2, rfl⟩ := h2.shape
    have hR := h2.flat hBW (by simp [flatV]) #[.bool nb, .slice a2 n2 c2]
    have hEW := hEW0.row (show w.heap.size ≤ w.heap.size + 1 by omega) #[.bool nb, .slice a2 n2 c2]
    replace hR := mkHid hR
    replace hEW := mkHid hEW
    clear h2 hEW0
    go_wp2_with (refine wpList_store_row rfl 24 (.tmp 2) (.tmp 5) rfl (w.heap.size + 1) #[.bool nb, .slice a2 n2 c2] rfl rfl 24 _ hBW (by kernel_rfl) rfl (by kernel_rfl) ?_)
    exact bodyPost_ret (results_cell_row rfl _ _ (w.heap.size + 1) 24 #[.bool nb, .slice a2 n2 c2] (0, 0) _ rfl (setRow_heap _ _ _ _ _ _ hBW) Tryz.underlying24 rfl (by kernel_rfl)) rfl ⟨_, rfl, hR.out, hEW.out⟩
set_option maxRecDepth 100000 in
set_option maxHeartbeats 3200000 in
theorem rlow_c (v1 v2 : Value) (X Y : Int) (w : World) (hX : nl X ≤ 268435456) (hY : nl Y ≤ 268435456) (hY0 : Y ≠ 0) (h1 : IntR w v1 X) (h2 : IntR w v2 Y) :
    Calls Tryz.prog 98 #[v1, v2] w fun e w' => ∃ v, e = .returned v ∧ FracR w' v (Rat.divInt X Y) ∧ Ext w w' := by
  have H1 := mkHid h1
  have H2 := mkHid h2
  obtain ⟨b1, a1, n1, m1, rfl⟩ := h1.shape
  obtain ⟨b2, a2, n2, m2, rfl⟩ := h2.shape
  have en := low_num X Y
  have ed := low_den X Y hY0
  rw [if_neg hY0] at en
  have hg0 : Int.gcd X Y ≠ 0 := by
    intro h
    exact hY0 (Int.gcd_eq_zero_iff.1 h).2
  have hgl : nl (Int.gcd X Y : Nat) ≤ 268435456 := by
    refine Nat.le_trans (lim_mono ?_) hY
    rw [Int.natAbs_natCast]
    exact Nat.le_of_dvd (by omega) (by simpa using (Int.natAbs_dvd_natAbs.2 (Int.gcd_dvd_right X Y)))
  have hX2 := Nat.le_trans (tdiv_nl X (Int.gcd X Y)) hX
  have hY2 := Nat.le_trans (tdiv_nl Y (Int.gcd X Y)) hY
  have hs2 := tdiv_neg Y (Int.gcd X Y) hg0 (Int.gcd_dvd_right X Y)
  have CM := mkHid (fun W h h' => rcomm_c (.agg #[.bool b1, .slice a1 n1 m1]) (.agg #[.bool b2, .slice a2 n2 m2]) X Y W hX hY h h')
  generalize Int.gcd X Y = G at *
  obtain ⟨Q, hQ⟩ : ∃ Q, Q = Rat.divInt X Y := ⟨_, rfl⟩
  rw [← hQ] at en ed ⊢
  replace en := mkHid en
  replace ed := mkHid ed
  replace hQ := mkHid hQ
  replace hs2 := mkHid hs2
  replace hX := mkHid hX
  replace hY := mkHid hY
  replace hX2 := mkHid hX2
  replace hY2 := mkHid hY2
  replace hgl := mkHid hgl
  replace hg0 := mkHid hg0
  replace hY0 := mkHid hY0
  clear h1 h2
  go_enter Tryz.func98, Tryz.ntmps98
  go_wp2_with fail
  obtain ⟨wb, hwb⟩ : ∃ wb, wb = ((w.alloc (.cells #[.bool b1, .slice a1 n1 m1] 24)).alloc (.cells #[.bool b2, .slice a2 n2 m2] 24)).alloc (.cells #[.bool false, .slice none 0 0, .bool false, .slice none 0 0] 26) := ⟨_, rfl⟩
  rw [← hwb]
  have hE : Ext w wb := by rw [hwb]; exact (((Ext.refl w).al _).al _).al _
  have hB0 : wb.heap[w.heap.size]? = some (.cells #[.bool b1, .slice a1 n1 m1] 24) := by rw [hwb]; exact (heap_alloc_old _ _ (by simp; omega)).trans ((heap_alloc_old _ _ (by simp)).trans (heap_alloc_new _ _))
  have hB1 : wb.heap[w.heap.size + 1]? = some (.cells #[.bool b2, .slice a2 n2 m2] 24) := by rw [hwb]; exact (heap_alloc_old _ _ (by simp)).trans (heap_at _ _ _ (by simp))
  have hB2 : wb.heap[w.heap.size + 2]? = some (.cells #[.bool false, .slice none 0 0, .bool false, .slice none 0 0] 26) := by rw [hwb]; exact heap_at _ _ _ (by simp)
  clear hwb
  refine (CM.out wb (H1.out.ext hE) (H2.out.ext hE)).mono ?_
  rintro e w1 ⟨vg, rfl, hg, hE1⟩
  obtain ⟨bg, ag, ng, mg, rfl⟩ := hg.shape
  have hEw := hE.trans hE1
  have iX := H1.out.ext hEw
  have iY := H2.out.ext hEw
  have kc0 := fun o => ((Ext.refl w1).al o).cell (row2_cells (hE1.blk hB0)).1
  have kc1 := fun o => ((Ext.refl w1).al o).cell (row2_cells (hE1.blk hB0)).2
  have DX := mkHid (fun W (e : Ext w1 W) => rdivI_c _ _ X (G : Int) W (Nat.le_trans hX.out (by decide)) (Nat.le_trans hgl.out (by decide)) (by have := hg0.out; omega) (iX.ext e) (hg.ext e))
  have DY := mkHid (fun W (e : Ext w1 W) => rdivI_c _ _ Y (G : Int) W (Nat.le_trans hY.out (by decide)) (Nat.le_trans hgl.out (by decide)) (by have := hg0.out; omega) (iY.ext e) (hg.ext e))
  replace hB1 := mkHid (hE1.blk hB1)
  replace hB2 := mkHid (hE1.blk hB2)
  replace hEw := mkHid hEw
  clear CM H1 H2 hE hE1 hB0 hg iX iY
  go_wp2_with fail
  refine (DX.out _ ((Ext.refl w1).al _)).mono ?_
  rintro e w2 ⟨vn, vr, rfl, hn, hr, he2⟩
  obtain ⟨bn, an, nn, mn, rfl⟩ := hn.shape
  obtain ⟨br, ar, nr, mr, rfl⟩ := hr.shape
  have hb5 := he2.blk (show (w1.alloc (.cells #[.bool bg, .slice ag ng mg] 24)).heap[w1.heap.size]? = some (.cells #[.bool bg, .slice ag ng mg] 24) from heap_alloc_new _ _)
  have he12 := ((Ext.refl w1).al _).trans he2
  replace hB1 := he12.blk hB1.out
  replace hB2 := mkHid (he12.blk hB2.out)
  have kd0 := fun o1 o2 => (((Ext.refl w2).al o1).al o2).cell (row2_cells hB1).1
  have kd1 := fun o1 o2 => (((Ext.refl w2).al o1).al o2).cell (row2_cells hB1).2
  have kg0 := fun o1 o2 => (((Ext.refl w2).al o1).al o2).cell (row2_cells hb5).1
  have kg1 := fun o1 o2 => (((Ext.refl w2).al o1).al o2).cell (row2_cells hb5).2
  replace DY := mkHid (fun W (e : Ext w2 W) => DY.out W (he12.trans e))
  replace hEw := mkHid (hEw.out.trans he12)
  replace hn := mkHid hn
  clear hr he2 he12 hB1 hb5 DX kc0 kc1
  go_wp2_with fail
  refine (DY.out _ (((Ext.refl w2).al _).al _)).mono ?_
  rintro e w3 ⟨vd, vr, rfl, hd, hr, he3⟩
  obtain ⟨bd, ad, nd, md, rfl⟩ := hd.shape
  obtain ⟨be, ae, nde, me, rfl⟩ := hr.shape
  have hb6 := he3.blk (show ((w2.alloc (.cells #[.bool bn, .slice an nn mn] 24)).alloc (.cells #[.bool br, .slice ar nr mr] 24)).heap[w2.heap.size]? = some (.cells #[.bool bn, .slice an nn mn] 24) from (heap_alloc_old _ _ (by simp)).trans (heap_alloc_new _ _))
  have he23 := (((Ext.refl w2).al _).al _).trans he3
  replace hB2 := mkHid (he23.blk hB2.out)
  replace hn := mkHid (hn.out.ext he23)
  replace hEw := mkHid (hEw.out.trans he23)
  have SG := mkHid (fun W (e : Ext w3 W) => rsign_c _ (Y.tdiv (G : Nat)) W (hd.ext e) (Nat.le_trans hY2.out (by decide)))
  replace hd := mkHid hd
  replace hb6 := mkHid hb6
  clear hr he3 he23 DY kd0 kd1 kg0 kg1
  go_wp2_with fail
  refine (SG.out _ (((Ext.refl w3).al _).al _)).mono ?_
  rintro e w4 ⟨rfl, he4⟩
  have hb8 := he4.blk (show ((w3.alloc (.cells #[.bool bd, .slice ad nd md] 24)).alloc (.cells #[.bool be, .slice ae nde me] 24)).heap[w3.heap.size]? = some (.cells #[.bool bd, .slice ad nd md] 24) from (heap_alloc_old _ _ (by simp)).trans (heap_alloc_new _ _))
  have he34 := (((Ext.refl w3).al _).al _).trans he4
  have hb6 := he34.blk hb6.out
  replace hB2 := mkHid (he34.blk hB2.out)
  replace hn := mkHid (hn.out.ext he34)
  replace hd := mkHid (hd.out.ext he34)
  replace hEw := mkHid (hEw.out.trans he34)
  have hsr := sign_rng (Y.tdiv (G : Nat))
  have hsn : (Y.tdiv (G : Nat)).sign < 0 ↔ Y < 0 := by rw [Int.sign_neg_iff]; exact hs2.out
  have k60 := fun W (e : Ext w4 W) => e.cell (row2_cells hb6).1
  have k61 := fun W (e : Ext w4 W) => e.cell (row2_cells hb6).2
  have k80 := fun W (e : Ext w4 W) => e.cell (row2_cells hb8).1
  have k81 := fun W (e : Ext w4 W) => e.cell (row2_cells hb8).2
  clear SG he4 he34 hb6 hb8
  generalize (Y.tdiv (G : Nat)).sign = S at *
  by_cases hneg : Y < 0
  · have hS := hsn.2 hneg
    have en := en.out
    have ed := ed.out
    rw [if_pos hneg] at en ed
    have T1 := mkHid (fun W (e : Ext w4 W) => rturn_c _ (X.tdiv (G : Nat)) W hX2.out (hn.out.ext e))
    have T2 := mkHid (fun W (e : Ext w4 W) => rturn_c _ (Y.tdiv (G : Nat)) W hY2.out (hd.out.ext e))
    rw [← en] at T1
    rw [← ed] at T2
    replace en := mkHid en
    replace ed := mkHid ed
    replace hneg := mkHid hneg
    replace hsn := mkHid hsn
    clear hn hd
    go_wp2_with fail
    apply region_ext [.val _, .pred (fun W v => IntR W v Q.num), .val _, .pred (fun W v => IntR W v (Q.den : Int))] (by kernel_rfl) (stable_vals _ (st_intR _ (stable_vals _ (st_intR _ trivial))))
    refine ⟨fun W hW _ => by go_simp; exact ⟨Ext.refl _, rfl⟩, ?_⟩
    refine ⟨fun W hW _ => ?h1, fun v1 => ?_⟩
    case h1 =>
      go_simp
      refine (T1.out W hW).mono ?_
      rintro e w' ⟨v, rfl, h1, h2⟩
      exact ⟨v, rfl, h2, h1⟩
    refine ⟨fun W hW _ => by go_simp; exact ⟨Ext.refl _, rfl⟩, ?_⟩
    refine ⟨fun W hW _ => ?h3, fun v3 => fun W hW hF => ?fin⟩
    case h3 =>
      go_simp
      refine (T2.out W hW).mono ?_
      rintro e w' ⟨v, rfl, h1, h2⟩
      exact ⟨v, rfl, h2, h1⟩
    case fin =>
      have J3 : IntR W v3 (Q.den : Int) := hF.1 rfl
      have J1 : IntR W v1 Q.num := hF.2.1 rfl
      obtain ⟨x1, x2, x3, x4, rfl⟩ := J1.shape
      obtain ⟨y1, y2, y3, y4, rfl⟩ := J3.shape
      have hBW := hW.blk hB2.out
      have hEW0 := hEw.out.trans hW
      have R : FracR W (.agg #[.bool x1, .slice x2 x3 x4, .bool y1, .slice y2 y3 y4]) Q := ⟨_, _, _, _, _, _, _, _, rfl, J1, J3⟩
      have FR := R.flat hBW (by simp [flatV]) #[.bool x1, .slice x2 x3 x4, .bool y1, .slice y2 y3 y4]
      have FE := hEW0.row (show w.heap.size ≤ w.heap.size + 2 by omega) #[.bool x1, .slice x2 x3 x4, .bool y1, .slice y2 y3 y4]
      replace FR := mkHid FR
      replace FE := mkHid FE
      clear hF J1 J3 R hEW0 T1 T2 k60 k61 k80 k81 hW
      go_simp
      go_wp2_with (refine wpList_store_row rfl 26 (.tmp 4) (.tmp 32) rfl (w.heap.size + 2) #[.bool x1, .slice x2 x3 x4, .bool y1, .slice y2 y3 y4] rfl rfl 26 _ hBW (by kernel_rfl) rfl (by kernel_rfl) ?_)
      exact bodyPost_ret (results_cell_row rfl _ _ (w.heap.size + 2) 26 #[.bool x1, .slice x2 x3 x4, .bool y1, .slice y2 y3 y4] (0, 0) _ rfl (setRow_heap _ _ _ _ _ _ hBW) Tryz.underlying26 rfl (by kernel_rfl)) rfl ⟨_, rfl, FR.out, FE.out⟩
  · have hS : ¬ S < 0 := fun h => hneg (hsn.1 h)
    have en := en.out
    have ed := ed.out
    rw [if_neg hneg] at en ed
    have J1 := hn.out
    have J3 := hd.out
    rw [← en] at J1
    rw [← ed] at J3
    have hBW := hB2.out
    have R : FracR w4 (.agg #[.bool bn, .slice an nn mn, .bool bd, .slice ad nd md]) Q := ⟨_, _, _, _, _, _, _, _, rfl, J1, J3⟩
    have FR := R.flat hBW (by simp [flatV]) #[.bool bn, .slice an nn mn, .bool bd, .slice ad nd md]
    have FE := hEw.out.row (show w.heap.size ≤ w.heap.size + 2 by omega) #[.bool bn, .slice an nn mn, .bool bd, .slice ad nd md]
    have q60 := k60 w4 (Ext.refl _)
    have q61 := k61 w4 (Ext.refl _)
    have q80 := k80 w4 (Ext.refl _)
    have q81 := k81 w4 (Ext.refl _)
    replace FR := mkHid FR
    replace FE := mkHid FE
    replace en := mkHid en
    replace ed := mkHid ed
    replace hneg := mkHid hneg
    replace hsn := mkHid hsn
    clear J1 J3 R hn hd k60 k61 k80 k81
    go_wp2_with (refine wpList_store_row rfl 26 (.tmp 4) (.tmp 35) rfl (w.heap.size + 2) #[.bool bn, .slice an nn mn, .bool bd, .slice ad nd md] rfl rfl 26 _ hBW (by kernel_rfl) rfl (by kernel_rfl) ?_)
    exact bodyPost_ret (results_cell_row rfl _ _ (w.heap.size + 2) 26 #[.bool bn, .slice an nn mn, .bool bd, .slice ad nd md] (0, 0) _ rfl (setRow_heap _ _ _ _ _ _ hBW) Tryz.underlying26 rfl (by kernel_rfl)) rfl ⟨_, rfl, FR.out, FE.out⟩
end Go.Proofs.YtpmfohhpaoagfaaGreat
namespace Go.Proofs.YtpmfohhpaoagfaaGreat
open Go Go.RowKit Go.Proofs
theorem fst_intR {ss : List Fresh.FSpec} (x : Int) (h : Fresh.StableAll Ext ss) : Fresh.StableAll Ext (.pred (fun W v => IntR W v x) :: ss) := ⟨fun _ _ _ e h => IntR.ext h e, h⟩
theorem neg_parts (x : Rat) : (-x).num = -x.num ∧ (-x).den = x.den := ⟨rfl, rfl⟩

set_option maxRecDepth 100000 in
set_option maxHeartbeats 3200000 in
theorem rplus_f (v1 v2 : Value) (x y : Rat) (w : World) (hX1 : nf x ≤ 67108864) (hX2 : nf y ≤ 67108864) (h1 : FracR w v1 x) (h2 : FracR w v2 y) :
    Calls Tryz.prog 87 #[v1, v2] w fun e w' => ∃ v, e = .returned v ∧ FracR w' v (x + y) ∧ Ext w w' := by
  have H1 := h1
  have H2 := h2
  obtain ⟨p1, q1, r1, s1, t1, u1, f1, g1, rfl⟩ := h1.shape
  obtain ⟨p2, q2, r2, s2, t2, u2, f2, g2, rfl⟩ := h2.shape
  have bn1 : nl x.num ≤ 67108864 := Nat.le_trans (Nat.le_max_left _ _) hX1
  have bd1 : nl (x.den : Int) ≤ 67108864 := Nat.le_trans (Nat.le_max_right _ _) hX1
  have bn2 : nl y.num ≤ 67108864 := Nat.le_trans (Nat.le_max_left _ _) hX2
  have bd2 : nl (y.den : Int) ≤ 67108864 := Nat.le_trans (Nat.le_max_right _ _) hX2
  have tA := mkHid (fun W (e : Ext w W) => rtimesI_c _ _ _ _ W (Nat.le_trans bn1 (by decide)) (Nat.le_trans bd2 (by decide)) (H1.num.ext e) (H2.den.ext e))
  have tB := mkHid (fun W (e : Ext w W) => rtimesI_c _ _ _ _ W (Nat.le_trans bn2 (by decide)) (Nat.le_trans bd1 (by decide)) (H2.num.ext e) (H1.den.ext e))
  have tD := mkHid (fun W (e : Ext w W) => rtimesI_c _ _ _ _ W (Nat.le_trans bd1 (by decide)) (Nat.le_trans bd2 (by decide)) (H1.den.ext e) (H2.den.ext e))
  have n1 := nl_mul x.num y.den
  have n2 := nl_mul y.num x.den
  have n3 := nl_mul x.den y.den
  have n4 := nl_add (x.num * y.den) (y.num * x.den)
  have hd := den_ne x y
  have PL := mkHid (fun v v' W h h' => rplusI_c v v' (x.num * y.den) (y.num * x.den) W (by omega) (by omega) h h')
  have LO := mkHid (fun v v' W h h' => rlow_c v v' (x.num * y.den + y.num * x.den) (x.den * y.den) W (by omega) (by omega) hd h h')
  clear n1 n2 n3 n4 hd
  clear h1 H1 h2 H2
  go_enter Tryz.func87, Tryz.ntmps87
  go_wp2_with fail
  obtain ⟨wb, hwb⟩ : ∃ wb, wb = (((w.alloc (.cells #[.bool p1, .slice q1 r1 s1, .bool t1, .slice u1 f1 g1] 26)).alloc (.cells #[.bool p2, .slice q2 r2 s2, .bool t2, .slice u2 f2 g2] 26)).alloc (.cells #[.bool false, .slice none 0 0, .bool false, .slice none 0 0] 26)) := ⟨_, rfl⟩
  have hE : Ext w wb := by rw [hwb]; exact ((((Ext.refl w).al _).al _).al _)
  have c10 : ∀ W, Ext wb W → W.cell? ⟨w.heap.size, 0, none⟩ = some (.bool p1) := fun W e => e.cell (by rw [hwb]; go_simp)
  have c11 : ∀ W, Ext wb W → W.cell? ⟨w.heap.size, 1, none⟩ = some (.slice q1 r1 s1) := fun W e => e.cell (by rw [hwb]; go_simp)
  have c12 : ∀ W, Ext wb W → W.cell? ⟨w.heap.size, 2, none⟩ = some (.bool t1) := fun W e => e.cell (by rw [hwb]; go_simp)
  have c13 : ∀ W, Ext wb W → W.cell? ⟨w.heap.size, 3, none⟩ = some (.slice u1 f1 g1) := fun W e => e.cell (by rw [hwb]; go_simp)
  have c20 : ∀ W, Ext wb W → W.cell? ⟨w.heap.size + 1, 0, none⟩ = some (.bool p2) := fun W e => e.cell (by rw [hwb]; go_simp)
  have c21 : ∀ W, Ext wb W → W.cell? ⟨w.heap.size + 1, 1, none⟩ = some (.slice q2 r2 s2) := fun W e => e.cell (by rw [hwb]; go_simp)
  have c22 : ∀ W, Ext wb W → W.cell? ⟨w.heap.size + 1, 2, none⟩ = some (.bool t2) := fun W e => e.cell (by rw [hwb]; go_simp)
  have c23 : ∀ W, Ext wb W → W.cell? ⟨w.heap.size + 1, 3, none⟩ = some (.slice u2 f2 g2) := fun W e => e.cell (by rw [hwb]; go_simp)
  have hB : wb.heap[w.heap.size + 2]? = some (.cells #[.bool false, .slice none 0 0, .bool false, .slice none 0 0] 26) := by rw [hwb]; exact heap_at _ _ _ (by simp)
  rw [← hwb]
  replace hB := mkHid hB
  replace hE := mkHid hE
  clear hwb
  apply region_fresh [.val _, .val _, .val _, .val _, .pred (fun W v => IntR W v (x.num * y.den)), .val _, .val _, .val _, .val _, .pred (fun W v => IntR W v (y.num * x.den)), .pred (fun W v => IntR W v (x.num * y.den + y.num * x.den)), .fresh (VarAt wb.heap.size #[.bool false, .slice none 0 0] 24)] (by kernel_rfl) (Fresh.stable_vals _ (Fresh.stable_vals _ (Fresh.stable_vals _ (Fresh.stable_vals _ (fst_intR _ (Fresh.stable_vals _ (Fresh.stable_vals _ (Fresh.stable_vals _ (Fresh.stable_vals _ (fst_intR _ (fst_intR _ (fst_var _ _ _ trivial))))))))))))
  refine ⟨fun W hW _ => by go_simp; exact ⟨Ext.refl _, rfl⟩, ?_⟩
  refine ⟨fun W hW _ => by go_simp; exact ⟨Ext.refl _, rfl⟩, ?_⟩
  refine ⟨fun W hW _ => by go_simp; exact ⟨Ext.refl _, rfl⟩, ?_⟩
  refine ⟨fun W hW _ => by go_simp; exact ⟨Ext.refl _, rfl⟩, ?_⟩
  refine ⟨fun W hW hF => ?midg4, fun v104 => ?_⟩
  case midg4 =>
    clear hF
    go_simp
    refine (tA.out W (hE.out.trans hW)).mono ?_
    rintro e w' ⟨v, rfl, h1, h2⟩
    exact ⟨v, rfl, h2, h1⟩
  refine ⟨fun W hW _ => by go_simp; exact ⟨Ext.refl _, rfl⟩, ?_⟩
  refine ⟨fun W hW _ => by go_simp; exact ⟨Ext.refl _, rfl⟩, ?_⟩
  refine ⟨fun W hW _ => by go_simp; exact ⟨Ext.refl _, rfl⟩, ?_⟩
  refine ⟨fun W hW _ => by go_simp; exact ⟨Ext.refl _, rfl⟩, ?_⟩
  refine ⟨fun W hW hF => ?midg9, fun v109 => ?_⟩
  case midg9 =>
    clear hF
    go_simp
    refine (tB.out W (hE.out.trans hW)).mono ?_
    rintro e w' ⟨v, rfl, h1, h2⟩
    exact ⟨v, rfl, h2, h1⟩
  refine ⟨fun W hW hF => ?midg10, fun v110 => ?_⟩
  case midg10 =>
    have d4 : IntR W v104 (x.num * y.den) := hF.2.1 (by kernel_rfl)
    replace d4 := mkHid d4
    have d9 : IntR W v109 (y.num * x.den) := hF.1 (by kernel_rfl)
    replace d9 := mkHid d9
    clear hF
    go_simp
    refine (PL.out _ _ W d4.out d9.out).mono ?_
    rintro e w' ⟨v, rfl, h1, h2⟩
    exact ⟨v, rfl, h2, h1⟩
  refine ⟨fun W hW hF => ?midg11, fun v111 => fun W hW hF hAp => ?mid⟩
  case midg11 =>
    have hnv := new_var (b := wb.heap.size) (cs := #[.bool false, .slice none 0 0]) (T := 24) W hW.size
    replace hnv := mkHid hnv
    clear hF
    go_simp
    exact ⟨hnv.out.1, hnv.out.2.1⟩
  case mid =>
    obtain ⟨⟨g, rfl, hgb, hg⟩, _⟩ := hF.1 rfl
    have d : IntR W v110 (x.num * y.den + y.num * x.den) := hF.2.1 rfl
    obtain ⟨m1, m2, m3, m4, rfl⟩ := d.shape
    obtain ⟨wc, hwc⟩ : ∃ wc, wc = W.setRow g #[.bool m1, .slice m2 m3 m4] := ⟨_, rfl⟩
    have hgc : wc.heap[g]? = some (.cells #[.bool m1, .slice m2 m3 m4] 24 (0, 0)) := by rw [hwc]; exact setRow_heap _ _ _ _ _ _ hg
    have hEc : Ext wb wc := by rw [hwc]; exact hW.row hgb _
    have m0 : ∀ W', Ext wc W' → W'.cell? ⟨g, 0, none⟩ = some (.bool m1) := fun W' e => e.cell (row2_cells hgc).1
    have n0 : ∀ W', Ext wc W' → W'.cell? ⟨g, 1, none⟩ = some (.slice m2 m3 m4) := fun W' e => e.cell (row2_cells hgc).2
    have dm := mkHid (show IntR wc (.agg #[.bool m1, .slice m2 m3 m4]) (x.num * y.den + y.num * x.den) by rw [hwc]; exact d.flat hg (by simp [flatV]) _)
    replace hg := mkHid hg
    replace hwc := mkHid hwc
    clear hF hAp d hgc
    go_simp
    go_wp2_with (refine wpList_store_row rfl 24 (.tmp 5) (.tmp 16) rfl g #[.bool m1, .slice m2 m3 m4] rfl rfl 24 _ hg.out (by kernel_rfl) rfl (by kernel_rfl) ?_)
    replace c10 := fun W' (e : Ext wc W') => c10 W' (hEc.trans e)
    replace c11 := fun W' (e : Ext wc W') => c11 W' (hEc.trans e)
    replace c12 := fun W' (e : Ext wc W') => c12 W' (hEc.trans e)
    replace c13 := fun W' (e : Ext wc W') => c13 W' (hEc.trans e)
    replace c20 := fun W' (e : Ext wc W') => c20 W' (hEc.trans e)
    replace c21 := fun W' (e : Ext wc W') => c21 W' (hEc.trans e)
    replace c22 := fun W' (e : Ext wc W') => c22 W' (hEc.trans e)
    replace c23 := fun W' (e : Ext wc W') => c23 W' (hEc.trans e)
    replace hE := mkHid (hE.out.trans hEc)
    replace hB := mkHid (hEc.blk hB.out)
    rw [← hwc.out]
    clear hwc hEc hW hg hgb
    obtain ⟨wb, rfl⟩ : ∃ x, x = wc := ⟨_, rfl⟩
    apply region_ext [.val _, .val _, .val _, .val _, .val _, .pred (fun W v => IntR W v ((x.den : Int) * y.den)), .pred (fun W v => FracR W v (Rat.divInt (x.num * y.den + y.num * x.den) (x.den * y.den)))] (by kernel_rfl) (stable_vals _ (stable_vals _ (stable_vals _ (stable_vals _ (stable_vals _ (st_intR _ (st_fracR _ trivial)))))))
    refine ⟨fun W hW _ => by go_simp; exact ⟨Ext.refl _, rfl⟩, ?_⟩
    refine ⟨fun W hW _ => by go_simp; exact ⟨Ext.refl _, rfl⟩, ?_⟩
    refine ⟨fun W hW _ => by go_simp; exact ⟨Ext.refl _, rfl⟩, ?_⟩
    refine ⟨fun W hW _ => by go_simp; exact ⟨Ext.refl _, rfl⟩, ?_⟩
    refine ⟨fun W hW _ => by go_simp; exact ⟨Ext.refl _, rfl⟩, ?_⟩
    refine ⟨fun W hW hF => ?fing5, fun v205 => ?_⟩
    case fing5 =>
      clear hF
      go_simp
      refine (tD.out W (hE.out.trans hW)).mono ?_
      rintro e w' ⟨v, rfl, h1, h2⟩
      exact ⟨v, rfl, h2, h1⟩
    refine ⟨fun W hW hF => ?fing6, fun v206 => fun W hW hF => ?fin⟩
    case fing6 =>
      have d5 : IntR W v205 ((x.den : Int) * y.den) := hF.1 (by kernel_rfl)
      replace d5 := mkHid d5
      clear hF
      go_simp
      refine (LO.out _ _ W (dm.out.ext hW) d5.out).mono ?_
      rintro e w' ⟨v, rfl, h1, h2⟩
      exact ⟨v, rfl, h2, h1⟩
    case fin =>
      have R : FracR W v206 (Rat.divInt (x.num * y.den + y.num * x.den) (x.den * y.den)) := hF.1 rfl
      obtain ⟨x1, x2, x3, x4, y1, y2, y3, y4, rfl⟩ := R.shape
      rw [div_add x y] at R
      have hBW := hW.blk hB.out
      have FR := mkHid (R.flat hBW (by simp [flatV]) #[.bool x1, .slice x2 x3 x4, .bool y1, .slice y2 y3 y4])
      have FE := mkHid ((hE.out.trans hW).row (show w.heap.size ≤ w.heap.size + 2 by omega) #[.bool x1, .slice x2 x3 x4, .bool y1, .slice y2 y3 y4])
      clear hF R c10 c11 c12 c13 c20 c21 c22 c23 hW m0 n0
      go_simp
      go_wp2_with (refine wpList_store_row rfl 26 (.tmp 4) (.tmp 23) rfl (w.heap.size + 2) #[.bool x1, .slice x2 x3 x4, .bool y1, .slice y2 y3 y4] rfl rfl 26 _ hBW (by kernel_rfl) rfl (by kernel_rfl) ?_)
      exact bodyPost_ret (results_cell_row rfl _ _ (w.heap.size + 2) 26 #[.bool x1, .slice x2 x3 x4, .bool y1, .slice y2 y3 y4] (0, 0) _ rfl (setRow_heap _ _ _ _ _ _ hBW) Tryz.underlying26 rfl (by kernel_rfl)) rfl ⟨_, rfl, FR.out, FE.out⟩

theorem nf_neg (x : Rat) : nf (-x) = nf x := by unfold nf; rw [(neg_parts x).1, (neg_parts x).2, nl_neg]

set_option maxRecDepth 100000 in
set_option maxHeartbeats 3200000 in
theorem rturned_f (v1 : Value) (x : Rat) (w : World) (hX1 : nf x ≤ 67108864) (h1 : FracR w v1 x) :
    Calls Tryz.prog 97 #[v1] w fun e w' => ∃ v, e = .returned v ∧ FracR w' v (-x) ∧ Ext w w' := by
  have H1 := h1
  obtain ⟨p1, q1, r1, s1, t1, u1, f1, g1, rfl⟩ := h1.shape
  have bn1 : nl x.num ≤ 67108864 := Nat.le_trans (Nat.le_max_left _ _) hX1
  have bd1 : nl (x.den : Int) ≤ 67108864 := Nat.le_trans (Nat.le_max_right _ _) hX1
  have TN := mkHid (fun W (e : Ext w W) => rturn_c _ x.num W (Nat.le_trans bn1 (by decide)) (H1.num.ext e))
  have DN := mkHid (fun W (e : Ext w W) => H1.den.ext e)
  clear h1 H1
  go_enter Tryz.func97, Tryz.ntmps97
  go_wp2_with fail
  obtain ⟨wb, hwb⟩ : ∃ wb, wb = ((w.alloc (.cells #[.bool p1, .slice q1 r1 s1, .bool t1, .slice u1 f1 g1] 26)).alloc (.cells #[.bool false, .slice none 0 0, .bool false, .slice none 0 0] 26)) := ⟨_, rfl⟩
  have hE : Ext w wb := by rw [hwb]; exact (((Ext.refl w).al _).al _)
  have c10 : ∀ W, Ext wb W → W.cell? ⟨w.heap.size, 0, none⟩ = some (.bool p1) := fun W e => e.cell (by rw [hwb]; go_simp)
  have c11 : ∀ W, Ext wb W → W.cell? ⟨w.heap.size, 1, none⟩ = some (.slice q1 r1 s1) := fun W e => e.cell (by rw [hwb]; go_simp)
  have c12 : ∀ W, Ext wb W → W.cell? ⟨w.heap.size, 2, none⟩ = some (.bool t1) := fun W e => e.cell (by rw [hwb]; go_simp)
  have c13 : ∀ W, Ext wb W → W.cell? ⟨w.heap.size, 3, none⟩ = some (.slice u1 f1 g1) := fun W e => e.cell (by rw [hwb]; go_simp)
  have hB : wb.heap[w.heap.size + 1]? = some (.cells #[.bool false, .slice none 0 0, .bool false, .slice none 0 0] 26) := by rw [hwb]; exact heap_at _ _ _ (by simp)
  rw [← hwb]
  replace hB := mkHid hB
  replace hE := mkHid hE
  clear hwb
  apply region_ext [.val _, .val _, .pred (fun W v => IntR W v (-x.num)), .val _, .val _] (by kernel_rfl) (stable_vals _ (stable_vals _ (st_intR _ (stable_vals _ (stable_vals _ trivial)))))
  refine ⟨fun W hW _ => by go_simp; exact ⟨Ext.refl _, rfl⟩, ?_⟩
  refine ⟨fun W hW _ => by go_simp; exact ⟨Ext.refl _, rfl⟩, ?_⟩
  refine ⟨fun W hW hF => ?fing2, fun v102 => ?_⟩
  case fing2 =>
    clear hF
    go_simp
    refine (TN.out W (hE.out.trans hW)).mono ?_
    rintro e w' ⟨v, rfl, h1, h2⟩
    exact ⟨v, rfl, h2, h1⟩
  refine ⟨fun W hW _ => by go_simp; exact ⟨Ext.refl _, rfl⟩, ?_⟩
  refine ⟨fun W hW _ => by go_simp; exact ⟨Ext.refl _, rfl⟩, fun W hW hF => ?fin⟩
  case fin =>
    have d2 : IntR W v102 (-x.num) := hF.1 rfl
    obtain ⟨x1, x2, x3, x4, rfl⟩ := d2.shape
    have R : FracR W (.agg #[.bool x1, .slice x2 x3 x4, .bool t1, .slice u1 f1 g1]) (-x) := ⟨_, _, _, _, _, _, _, _, rfl, d2, DN.out W (hE.out.trans hW)⟩
    have hBW := hW.blk hB.out
    have FR := mkHid (R.flat hBW (by simp [flatV]) #[.bool x1, .slice x2 x3 x4, .bool t1, .slice u1 f1 g1])
    have FE := mkHid ((hE.out.trans hW).row (show w.heap.size ≤ w.heap.size + 1 by omega) #[.bool x1, .slice x2 x3 x4, .bool t1, .slice u1 f1 g1])
    clear hF R c10 c11 c12 c13 hW
    go_simp
    go_wp2_with (refine wpList_store_row rfl 26 (.tmp 2) (.tmp 8) rfl (w.heap.size + 1) #[.bool x1, .slice x2 x3 x4, .bool t1, .slice u1 f1 g1] rfl rfl 26 _ hBW (by kernel_rfl) rfl (by kernel_rfl) ?_)
    exact bodyPost_ret (results_cell_row rfl _ _ (w.heap.size + 1) 26 #[.bool x1, .slice x2 x3 x4, .bool t1, .slice u1 f1 g1] (0, 0) _ rfl (setRow_heap _ _ _ _ _ _ hBW) Tryz.underlying26 rfl (by kernel_rfl)) rfl ⟨_, rfl, FR.out, FE.out⟩

set_option maxRecDepth 100000 in
set_option maxHeartbeats 3200000 in
theorem rminus_f (v1 v2 : Value) (x y : Rat) (w : World) (hX1 : nf x ≤ 67108864) (hX2 : nf y ≤ 67108864) (h1 : FracR w v1 x) (h2 : FracR w v2 y) :
    Calls Tryz.prog 75 #[v1, v2] w fun e w' => ∃ v, e = .returned v ∧ FracR w' v (x - y) ∧ Ext w w' := by
  have H1 := h1
  have H2 := h2
  obtain ⟨p1, q1, r1, s1, t1, u1, f1, g1, rfl⟩ := h1.shape
  obtain ⟨p2, q2, r2, s2, t2, u2, f2, g2, rfl⟩ := h2.shape
  have bn1 : nl x.num ≤ 67108864 := Nat.le_trans (Nat.le_max_left _ _) hX1
  have bd1 : nl (x.den : Int) ≤ 67108864 := Nat.le_trans (Nat.le_max_right _ _) hX1
  have bn2 : nl y.num ≤ 67108864 := Nat.le_trans (Nat.le_max_left _ _) hX2
  have bd2 : nl (y.den : Int) ≤ 67108864 := Nat.le_trans (Nat.le_max_right _ _) hX2
  have TN := mkHid (fun W (e : Ext w W) => rturned_f _ y W hX2 (H2.ext e))
  have PL := mkHid (fun v W (e : Ext w W) h => rplus_f _ v x (-y) W hX1 (by rw [nf_neg]; exact hX2) (H1.ext e) h)
  clear h1 H1 h2 H2
  go_enter Tryz.func75, Tryz.ntmps75
  go_wp2_with fail
  obtain ⟨wb, hwb⟩ : ∃ wb, wb = (((w.alloc (.cells #[.bool p1, .slice q1 r1 s1, .bool t1, .slice u1 f1 g1] 26)).alloc (.cells #[.bool p2, .slice q2 r2 s2, .bool t2, .slice u2 f2 g2] 26)).alloc (.cells #[.bool false, .slice none 0 0, .bool false, .slice none 0 0] 26)) := ⟨_, rfl⟩
  have hE : Ext w wb := by rw [hwb]; exact ((((Ext.refl w).al _).al _).al _)
  have c10 : ∀ W, Ext wb W → W.cell? ⟨w.heap.size, 0, none⟩ = some (.bool p1) := fun W e => e.cell (by rw [hwb]; go_simp)
  have c11 : ∀ W, Ext wb W → W.cell? ⟨w.heap.size, 1, none⟩ = some (.slice q1 r1 s1) := fun W e => e.cell (by rw [hwb]; go_simp)
  have c12 : ∀ W, Ext wb W → W.cell? ⟨w.heap.size, 2, none⟩ = some (.bool t1) := fun W e => e.cell (by rw [hwb]; go_simp)
  have c13 : ∀ W, Ext wb W → W.cell? ⟨w.heap.size, 3, none⟩ = some (.slice u1 f1 g1) := fun W e => e.cell (by rw [hwb]; go_simp)
  have c20 : ∀ W, Ext wb W → W.cell? ⟨w.heap.size + 1, 0, none⟩ = some (.bool p2) := fun W e => e.cell (by rw [hwb]; go_simp)
  have c21 : ∀ W, Ext wb W → W.cell? ⟨w.heap.size + 1, 1, none⟩ = some (.slice q2 r2 s2) := fun W e => e.cell (by rw [hwb]; go_simp)
  have c22 : ∀ W, Ext wb W → W.cell? ⟨w.heap.size + 1, 2, none⟩ = some (.bool t2) := fun W e => e.cell (by rw [hwb]; go_simp)
  have c23 : ∀ W, Ext wb W → W.cell? ⟨w.heap.size + 1, 3, none⟩ = some (.slice u2 f2 g2) := fun W e => e.cell (by rw [hwb]; go_simp)
  have hB : wb.heap[w.heap.size + 2]? = some (.cells #[.bool false, .slice none 0 0, .bool false, .slice none 0 0] 26) := by rw [hwb]; exact heap_at _ _ _ (by simp)
  rw [← hwb]
  replace hB := mkHid hB
  replace hE := mkHid hE
  clear hwb
  apply region_ext [.val _, .val _, .pred (fun W v => FracR W v (-y)), .pred (fun W v => FracR W v (x + -y))] (by kernel_rfl) (stable_vals _ (stable_vals _ (st_fracR _ (st_fracR _ trivial))))
  refine ⟨fun W hW _ => by go_simp; exact ⟨Ext.refl _, rfl⟩, ?_⟩
  refine ⟨fun W hW _ => by go_simp; exact ⟨Ext.refl _, rfl⟩, ?_⟩
  refine ⟨fun W hW hF => ?fing2, fun v102 => ?_⟩
  case fing2 =>
    clear hF
    go_simp
    refine (TN.out W (hE.out.trans hW)).mono ?_
    rintro e w' ⟨v, rfl, h1, h2⟩
    exact ⟨v, rfl, h2, h1⟩
  refine ⟨fun W hW hF => ?fing3, fun v103 => fun W hW hF => ?fin⟩
  case fing3 =>
    have d2 : FracR W v102 (-y) := hF.1 (by kernel_rfl)
    replace d2 := mkHid d2
    clear hF
    go_simp
    refine (PL.out _ W (hE.out.trans hW) d2.out).mono ?_
    rintro e w' ⟨v, rfl, h1, h2⟩
    exact ⟨v, rfl, h2, h1⟩
  case fin =>
    have R : FracR W v103 (x + -y) := hF.1 rfl
    obtain ⟨x1, x2, x3, x4, y1, y2, y3, y4, rfl⟩ := R.shape
    rw [← Rat.sub_eq_add_neg] at R
    have hBW := hW.blk hB.out
    have FR := mkHid (R.flat hBW (by simp [flatV]) #[.bool x1, .slice x2 x3 x4, .bool y1, .slice y2 y3 y4])
    have FE := mkHid ((hE.out.trans hW).row (show w.heap.size ≤ w.heap.size + 2 by omega) #[.bool x1, .slice x2 x3 x4, .bool y1, .slice y2 y3 y4])
    clear hF R c10 c11 c12 c13 c20 c21 c22 c23 hW
    go_simp
    go_wp2_with (refine wpList_store_row rfl 26 (.tmp 4) (.tmp 8) rfl (w.heap.size + 2) #[.bool x1, .slice x2 x3 x4, .bool y1, .slice y2 y3 y4] rfl rfl 26 _ hBW (by kernel_rfl) rfl (by kernel_rfl) ?_)
    exact bodyPost_ret (results_cell_row rfl _ _ (w.heap.size + 2) 26 #[.bool x1, .slice x2 x3 x4, .bool y1, .slice y2 y3 y4] (0, 0) _ rfl (setRow_heap _ _ _ _ _ _ hBW) Tryz.underlying26 rfl (by kernel_rfl)) rfl ⟨_, rfl, FR.out, FE.out⟩

set_option maxRecDepth 100000 in
set_option maxHeartbeats 3200000 in
theorem rtimes_f (v1 v2 : Value) (x y : Rat) (w : World) (hX1 : nf x ≤ 67108864) (hX2 : nf y ≤ 67108864) (h1 : FracR w v1 x) (h2 : FracR w v2 y) :
    Calls Tryz.prog 76 #[v1, v2] w fun e w' => ∃ v, e = .returned v ∧ FracR w' v (x * y) ∧ Ext w w' := by
  have H1 := h1
  have H2 := h2
  obtain ⟨p1, q1, r1, s1, t1, u1, f1, g1, rfl⟩ := h1.shape
  obtain ⟨p2, q2, r2, s2, t2, u2, f2, g2, rfl⟩ := h2.shape
  have bn1 : nl x.num ≤ 67108864 := Nat.le_trans (Nat.le_max_left _ _) hX1
  have bd1 : nl (x.den : Int) ≤ 67108864 := Nat.le_trans (Nat.le_max_right _ _) hX1
  have bn2 : nl y.num ≤ 67108864 := Nat.le_trans (Nat.le_max_left _ _) hX2
  have bd2 : nl (y.den : Int) ≤ 67108864 := Nat.le_trans (Nat.le_max_right _ _) hX2
  have tA := mkHid (fun W (e : Ext w W) => rtimesI_c _ _ _ _ W (Nat.le_trans bn1 (by decide)) (Nat.le_trans bn2 (by decide)) (H1.num.ext e) (H2.num.ext e))
  have tD := mkHid (fun W (e : Ext w W) => rtimesI_c _ _ _ _ W (Nat.le_trans bd1 (by decide)) (Nat.le_trans bd2 (by decide)) (H1.den.ext e) (H2.den.ext e))
  have n1 := nl_mul x.num y.num
  have n3 := nl_mul x.den y.den
  have hd := den_ne x y
  have LO := mkHid (fun v v' W h h' => rlow_c v v' (x.num * y.num) (x.den * y.den) W (by omega) (by omega) hd h h')
  clear n1 n3 hd
  clear h1 H1 h2 H2
  go_enter Tryz.func76, Tryz.ntmps76
  go_wp2_with fail
  obtain ⟨wb, hwb⟩ : ∃ wb, wb = (((w.alloc (.cells #[.bool p1, .slice q1 r1 s1, .bool t1, .slice u1 f1 g1] 26)).alloc (.cells #[.bool p2, .slice q2 r2 s2, .bool t2, .slice u2 f2 g2] 26)).alloc (.cells #[.bool false, .slice none 0 0, .bool false, .slice none 0 0] 26)) := ⟨_, rfl⟩
  have hE : Ext w wb := by rw [hwb]; exact ((((Ext.refl w).al _).al _).al _)
  have c10 : ∀ W, Ext wb W → W.cell? ⟨w.heap.size, 0, none⟩ = some (.bool p1) := fun W e => e.cell (by rw [hwb]; go_simp)
  have c11 : ∀ W, Ext wb W → W.cell? ⟨w.heap.size, 1, none⟩ = some (.slice q1 r1 s1) := fun W e => e.cell (by rw [hwb]; go_simp)
  have c12 : ∀ W, Ext wb W → W.cell? ⟨w.heap.size, 2, none⟩ = some (.bool t1) := fun W e => e.cell (by rw [hwb]; go_simp)
  have c13 : ∀ W, Ext wb W → W.cell? ⟨w.heap.size, 3, none⟩ = some (.slice u1 f1 g1) := fun W e => e.cell (by rw [hwb]; go_simp)
  have c20 : ∀ W, Ext wb W → W.cell? ⟨w.heap.size + 1, 0, none⟩ = some (.bool p2) := fun W e => e.cell (by rw [hwb]; go_simp)
  have c21 : ∀ W, Ext wb W → W.cell? ⟨w.heap.size + 1, 1, none⟩ = some (.slice q2 r2 s2) := fun W e => e.cell (by rw [hwb]; go_simp)
  have c22 : ∀ W, Ext wb W → W.cell? ⟨w.heap.size + 1, 2, none⟩ = some (.bool t2) := fun W e => e.cell (by rw [hwb]; go_simp)
  have c23 : ∀ W, Ext wb W → W.cell? ⟨w.heap.size + 1, 3, none⟩ = some (.slice u2 f2 g2) := fun W e => e.cell (by rw [hwb]; go_simp)
  have hB : wb.heap[w.heap.size + 2]? = some (.cells #[.bool false, .slice none 0 0, .bool false, .slice none 0 0] 26) := by rw [hwb]; exact heap_at _ _ _ (by simp)
  rw [← hwb]
  replace hB := mkHid hB
  replace hE := mkHid hE
  clear hwb
  apply region_ext [.val _, .val _, .val _, .val _, .pred (fun W v => IntR W v (x.num * y.num)), .val _, .val _, .val _, .val _, .pred (fun W v => IntR W v ((x.den : Int) * y.den)), .pred (fun W v => FracR W v (Rat.divInt (x.num * y.num) (x.den * y.den)))] (by kernel_rfl) (stable_vals _ (stable_vals _ (stable_vals _ (stable_vals _ (st_intR _ (stable_vals _ (stable_vals _ (stable_vals _ (stable_vals _ (st_intR _ (st_fracR _ trivial)))))))))))
  refine ⟨fun W hW _ => by go_simp; exact ⟨Ext.refl _, rfl⟩, ?_⟩
  refine ⟨fun W hW _ => by go_simp; exact ⟨Ext.refl _, rfl⟩, ?_⟩
  refine ⟨fun W hW _ => by go_simp; exact ⟨Ext.refl _, rfl⟩, ?_⟩
  refine ⟨fun W hW _ => by go_simp; exact ⟨Ext.refl _, rfl⟩, ?_⟩
  refine ⟨fun W hW hF => ?fing4, fun v104 => ?_⟩
  case fing4 =>
    clear hF
    go_simp
    refine (tA.out W (hE.out.trans hW)).mono ?_
    rintro e w' ⟨v, rfl, h1, h2⟩
    exact ⟨v, rfl, h2, h1⟩
  refine ⟨fun W hW _ => by go_simp; exact ⟨Ext.refl _, rfl⟩, ?_⟩
  refine ⟨fun W hW _ => by go_simp; exact ⟨Ext.refl _, rfl⟩, ?_⟩
  refine ⟨fun W hW _ => by go_simp; exact ⟨Ext.refl _, rfl⟩, ?_⟩
  refine ⟨fun W hW _ => by go_simp; exact ⟨Ext.refl _, rfl⟩, ?_⟩
  refine ⟨fun W hW hF => ?fing9, fun v109 => ?_⟩
  case fing9 =>
    clear hF
    go_simp
    refine (tD.out W (hE.out.trans hW)).mono ?_
    rintro e w' ⟨v, rfl, h1, h2⟩
    exact ⟨v, rfl, h2, h1⟩
  refine ⟨fun W hW hF => ?fing10, fun v110 => fun W hW hF => ?fin⟩
  case fing10 =>
    have d4 : IntR W v104 (x.num * y.num) := hF.2.1 (by kernel_rfl)
    replace d4 := mkHid d4
    have d9 : IntR W v109 ((x.den : Int) * y.den) := hF.1 (by kernel_rfl)
    replace d9 := mkHid d9
    clear hF
    go_simp
    refine (LO.out _ _ W d4.out d9.out).mono ?_
    rintro e w' ⟨v, rfl, h1, h2⟩
    exact ⟨v, rfl, h2, h1⟩
  case fin =>
    have R : FracR W v110 (Rat.divInt (x.num * y.num) (x.den * y.den)) := hF.1 rfl
    obtain ⟨x1, x2, x3, x4, y1, y2, y3, y4, rfl⟩ := R.shape
    rw [div_mul x y] at R
    have hBW := hW.blk hB.out
    have FR := mkHid (R.flat hBW (by simp [flatV]) #[.bool x1, .slice x2 x3 x4, .bool y1, .slice y2 y3 y4])
    have FE := mkHid ((hE.out.trans hW).row (show w.heap.size ≤ w.heap.size + 2 by omega) #[.bool x1, .slice x2 x3 x4, .bool y1, .slice y2 y3 y4])
    clear hF R c10 c11 c12 c13 c20 c21 c22 c23 hW
    go_simp
    go_wp2_with (refine wpList_store_row rfl 26 (.tmp 4) (.tmp 15) rfl (w.heap.size + 2) #[.bool x1, .slice x2 x3 x4, .bool y1, .slice y2 y3 y4] rfl rfl 26 _ hBW (by kernel_rfl) rfl (by kernel_rfl) ?_)
    exact bodyPost_ret (results_cell_row rfl _ _ (w.heap.size + 2) 26 #[.bool x1, .slice x2 x3 x4, .bool y1, .slice y2 y3 y4] (0, 0) _ rfl (setRow_heap _ _ _ _ _ _ hBW) Tryz.underlying26 rfl (by kernel_rfl)) rfl ⟨_, rfl, FR.out, FE.out⟩

set_option maxRecDepth 100000 in
set_option maxHeartbeats 3200000 in
theorem rcmp_f (v1 v2 : Value) (x y : Rat) (w : World) (hX1 : nf x ≤ 67108864) (hX2 : nf y ≤ 67108864) (h1 : FracR w v1 x) (h2 : FracR w v2 y) :
    Calls Tryz.prog 60 #[v1, v2] w fun e w' => e = .returned (.int .i64 ((x.num * y.den - y.num * x.den).sign)) ∧ Ext w w' := by
  have H1 := h1
  have H2 := h2
  obtain ⟨p1, q1, r1, s1, t1, u1, f1, g1, rfl⟩ := h1.shape
  obtain ⟨p2, q2, r2, s2, t2, u2, f2, g2, rfl⟩ := h2.shape
  have bn1 : nl x.num ≤ 67108864 := Nat.le_trans (Nat.le_max_left _ _) hX1
  have bd1 : nl (x.den : Int) ≤ 67108864 := Nat.le_trans (Nat.le_max_right _ _) hX1
  have bn2 : nl y.num ≤ 67108864 := Nat.le_trans (Nat.le_max_left _ _) hX2
  have bd2 : nl (y.den : Int) ≤ 67108864 := Nat.le_trans (Nat.le_max_right _ _) hX2
  have tA := mkHid (fun W (e : Ext w W) => rtimesI_c _ _ _ _ W (Nat.le_trans bn1 (by decide)) (Nat.le_trans bd2 (by decide)) (H1.num.ext e) (H2.den.ext e))
  have tB := mkHid (fun W (e : Ext w W) => rtimesI_c _ _ _ _ W (Nat.le_trans bn2 (by decide)) (Nat.le_trans bd1 (by decide)) (H2.num.ext e) (H1.den.ext e))
  have n1 := nl_mul x.num y.den
  have n2 := nl_mul y.num x.den
  have n4 := nl_sub (x.num * y.den) (y.num * x.den)
  have MI := mkHid (fun v v' W h h' => rminusI_c v v' (x.num * y.den) (y.num * x.den) W (by omega) (by omega) h h')
  have SG := mkHid (fun v W h => rsign_c v (x.num * y.den - y.num * x.den) W h (by omega))
  clear n1 n2 n4
  clear h1 H1 h2 H2
  go_enter Tryz.func60, Tryz.ntmps60
  go_wp2_with fail
  obtain ⟨wb, hwb⟩ : ∃ wb, wb = ((w.alloc (.cells #[.bool p1, .slice q1 r1 s1, .bool t1, .slice u1 f1 g1] 26)).alloc (.cells #[.bool p2, .slice q2 r2 s2, .bool t2, .slice u2 f2 g2] 26)) := ⟨_, rfl⟩
  have hE : Ext w wb := by rw [hwb]; exact (((Ext.refl w).al _).al _)
  have c10 : ∀ W, Ext wb W → W.cell? ⟨w.heap.size, 0, none⟩ = some (.bool p1) := fun W e => e.cell (by rw [hwb]; go_simp)
  have c11 : ∀ W, Ext wb W → W.cell? ⟨w.heap.size, 1, none⟩ = some (.slice q1 r1 s1) := fun W e => e.cell (by rw [hwb]; go_simp)
  have c12 : ∀ W, Ext wb W → W.cell? ⟨w.heap.size, 2, none⟩ = some (.bool t1) := fun W e => e.cell (by rw [hwb]; go_simp)
  have c13 : ∀ W, Ext wb W → W.cell? ⟨w.heap.size, 3, none⟩ = some (.slice u1 f1 g1) := fun W e => e.cell (by rw [hwb]; go_simp)
  have c20 : ∀ W, Ext wb W → W.cell? ⟨w.heap.size + 1, 0, none⟩ = some (.bool p2) := fun W e => e.cell (by rw [hwb]; go_simp)
  have c21 : ∀ W, Ext wb W → W.cell? ⟨w.heap.size + 1, 1, none⟩ = some (.slice q2 r2 s2) := fun W e => e.cell (by rw [hwb]; go_simp)
  have c22 : ∀ W, Ext wb W → W.cell? ⟨w.heap.size + 1, 2, none⟩ = some (.bool t2) := fun W e => e.cell (by rw [hwb]; go_simp)
  have c23 : ∀ W, Ext wb W → W.cell? ⟨w.heap.size + 1, 3, none⟩ = some (.slice u2 f2 g2) := fun W e => e.cell (by rw [hwb]; go_simp)
  rw [← hwb]
  replace hE := mkHid hE
  clear hwb
  apply region_fresh [.val _, .val _, .val _, .val _, .pred (fun W v => IntR W v (x.num * y.den)), .val _, .val _, .val _, .val _, .pred (fun W v => IntR W v (y.num * x.den)), .pred (fun W v => IntR W v (x.num * y.den - y.num * x.den)), .fresh (VarAt wb.heap.size #[.bool false, .slice none 0 0] 24)] (by kernel_rfl) (Fresh.stable_vals _ (Fresh.stable_vals _ (Fresh.stable_vals _ (Fresh.stable_vals _ (fst_intR _ (Fresh.stable_vals _ (Fresh.stable_vals _ (Fresh.stable_vals _ (Fresh.stable_vals _ (fst_intR _ (fst_intR _ (fst_var _ _ _ trivial))))))))))))
  refine ⟨fun W hW _ => by go_simp; exact ⟨Ext.refl _, rfl⟩, ?_⟩
  refine ⟨fun W hW _ => by go_simp; exact ⟨Ext.refl _, rfl⟩, ?_⟩
  refine ⟨fun W hW _ => by go_simp; exact ⟨Ext.refl _, rfl⟩, ?_⟩
  refine ⟨fun W hW _ => by go_simp; exact ⟨Ext.refl _, rfl⟩, ?_⟩
  refine ⟨fun W hW hF => ?midg4, fun v104 => ?_⟩
  case midg4 =>
    clear hF
    go_simp
    refine (tA.out W (hE.out.trans hW)).mono ?_
    rintro e w' ⟨v, rfl, h1, h2⟩
    exact ⟨v, rfl, h2, h1⟩
  refine ⟨fun W hW _ => by go_simp; exact ⟨Ext.refl _, rfl⟩, ?_⟩
  refine ⟨fun W hW _ => by go_simp; exact ⟨Ext.refl _, rfl⟩, ?_⟩
  refine ⟨fun W hW _ => by go_simp; exact ⟨Ext.refl _, rfl⟩, ?_⟩
  refine ⟨fun W hW _ => by go_simp; exact ⟨Ext.refl _, rfl⟩, ?_⟩
  refine ⟨fun W hW hF => ?midg9, fun v109 => ?_⟩
  case midg9 =>
    clear hF
    go_simp
    refine (tB.out W (hE.out.trans hW)).mono ?_
    rintro e w' ⟨v, rfl, h1, h2⟩
    exact ⟨v, rfl, h2, h1⟩
  refine ⟨fun W hW hF => ?midg10, fun v110 => ?_⟩
  case midg10 =>
    have d4 : IntR W v104 (x.num * y.den) := hF.2.1 (by kernel_rfl)
    replace d4 := mkHid d4
    have d9 : IntR W v109 (y.num * x.den) := hF.1 (by kernel_rfl)
    replace d9 := mkHid d9
    clear hF
    go_simp
    refine (MI.out _ _ W d4.out d9.out).mono ?_
    rintro e w' ⟨v, rfl, h1, h2⟩
    exact ⟨v, rfl, h2, h1⟩
  refine ⟨fun W hW hF => ?midg11, fun v111 => fun W hW hF hAp => ?mid⟩
  case midg11 =>
    have hnv := new_var (b := wb.heap.size) (cs := #[.bool false, .slice none 0 0]) (T := 24) W hW.size
    replace hnv := mkHid hnv
    clear hF
    go_simp
    exact ⟨hnv.out.1, hnv.out.2.1⟩
  case mid =>
    obtain ⟨⟨g, rfl, hgb, hg⟩, _⟩ := hF.1 rfl
    have d : IntR W v110 (x.num * y.den - y.num * x.den) := hF.2.1 rfl
    obtain ⟨m1, m2, m3, m4, rfl⟩ := d.shape
    obtain ⟨wc, hwc⟩ : ∃ wc, wc = W.setRow g #[.bool m1, .slice m2 m3 m4] := ⟨_, rfl⟩
    have hgc : wc.heap[g]? = some (.cells #[.bool m1, .slice m2 m3 m4] 24 (0, 0)) := by rw [hwc]; exact setRow_heap _ _ _ _ _ _ hg
    have hEc : Ext wb wc := by rw [hwc]; exact hW.row hgb _
    have m0 : ∀ W', Ext wc W' → W'.cell? ⟨g, 0, none⟩ = some (.bool m1) := fun W' e => e.cell (row2_cells hgc).1
    have n0 : ∀ W', Ext wc W' → W'.cell? ⟨g, 1, none⟩ = some (.slice m2 m3 m4) := fun W' e => e.cell (row2_cells hgc).2
    have dm := mkHid (show IntR wc (.agg #[.bool m1, .slice m2 m3 m4]) (x.num * y.den - y.num * x.den) by rw [hwc]; exact d.flat hg (by simp [flatV]) _)
    have zz := row2_cells (setRow_heap W g #[.bool false, .slice none 0 0] #[.bool m1, .slice m2 m3 m4] _ _ hg)
    replace hg := mkHid hg
    replace hwc := mkHid hwc
    clear hF hAp d hgc
    go_simp
    go_wp2_with (refine wpList_store_row rfl 24 (.tmp 5) (.tmp 16) rfl g #[.bool m1, .slice m2 m3 m4] rfl rfl 24 _ hg.out (by kernel_rfl) rfl (by kernel_rfl) ?_)
    replace c10 := fun W' (e : Ext wc W') => c10 W' (hEc.trans e)
    replace c11 := fun W' (e : Ext wc W') => c11 W' (hEc.trans e)
    replace c12 := fun W' (e : Ext wc W') => c12 W' (hEc.trans e)
    replace c13 := fun W' (e : Ext wc W') => c13 W' (hEc.trans e)
    replace c20 := fun W' (e : Ext wc W') => c20 W' (hEc.trans e)
    replace c21 := fun W' (e : Ext wc W') => c21 W' (hEc.trans e)
    replace c22 := fun W' (e : Ext wc W') => c22 W' (hEc.trans e)
    replace c23 := fun W' (e : Ext wc W') => c23 W' (hEc.trans e)
    replace hE := mkHid (hE.out.trans hEc)
    rw [← hwc.out]
    clear hwc hEc hW hg hgb
    obtain ⟨wb, rfl⟩ : ∃ x, x = wc := ⟨_, rfl⟩
    refine (SG.out _ wb dm.out).mono ?_
    rintro e w' ⟨rfl, hE2⟩
    have FE := mkHid (hE.out.trans hE2)
    clear hE2
    go_wp2_with fail
    go_ret
    exact ⟨rfl, FE.out⟩

set_option maxRecDepth 100000 in
set_option maxHeartbeats 1600000 in
theorem rsame_f (v1 v2 : Value) (x y : Rat) (w : World) (hX1 : nf x ≤ 67108864) (hX2 : nf y ≤ 67108864) (h1 : FracR w v1 x) (h2 : FracR w v2 y) :
    Calls Tryz.prog 30 #[v1, v2] w fun e w' => e = .returned (.bool (decide (x = y))) ∧ Ext w w' := by
  have H1 := h1
  have H2 := h2
  obtain ⟨p1, q1, r1, s1, t1, u1, f1, g1, rfl⟩ := h1.shape
  obtain ⟨p2, q2, r2, s2, t2, u2, f2, g2, rfl⟩ := h2.shape
  have CM := mkHid (fun W (e : Ext w W) => rcmp_f _ _ x y W hX1 hX2 (H1.ext e) (H2.ext e))
  have hd : decide (x = y) = decide ((x.num * y.den - y.num * x.den).sign = 0) := by
    rw [Bool.eq_iff_iff, decide_eq_true_eq, decide_eq_true_eq]
    exact (cmp_zero x y).symm
  have hrg := sign_rng (x.num * y.den - y.num * x.den)
  rw [hd]
  clear h1 h2 H1 H2 hd
  generalize (x.num * y.den - y.num * x.den).sign = S at *
  have hb : (S == 0) = decide (S = 0) := rfl
  go_enter Tryz.func30, Tryz.ntmps30
  go_wp2_with fail
  refine (CM.out _ (((Ext.refl w).al _).al _)).mono ?_
  rintro e w' ⟨rfl, hE2⟩
  have FE := mkHid ((((Ext.refl w).al _).al _).trans hE2)
  clear hE2 CM
  go_wp2_with fail
  go_ret
  exact ⟨rfl, FE.out⟩
set_option maxHeartbeats 1600000 in
theorem rsmall_f (n d : Int) (w : World) (h0 : -9223372036854775808 ≤ n) (h1 : n < 9223372036854775808) (h2 : -9223372036854775808 ≤ d) (h3 : d < 9223372036854775808) (hd : d ≠ 0) :
    Calls Tryz.prog 77 #[.int .i64 n, .int .i64 d] w fun e w' => ∃ v, e = .returned v ∧ FracR w' v (Rat.divInt n d) ∧ Ext w w' := by
  have b1 : nl n ≤ 268435456 := by unfold nl; exact Nat.le_trans (lim_length_le (k := 2) (by omega)) (by omega)
  have b2 : nl d ≤ 268435456 := by unfold nl; exact Nat.le_trans (lim_length_le (k := 2) (by omega)) (by omega)
  have o1 := mkHid (fun w => rof_c n w h0 h1)
  have o2 := mkHid (fun w => rof_c d w h2 h3)
  have lo := mkHid (fun v v' W k1 k2 => rlow_c v v' n d W b1 b2 hd k1 k2)
  clear h0 h1 h2 h3 hd b1 b2
  go_enter Tryz.func77, Tryz.ntmps77
  go_wp2_with fail
  refine (o1.out _).mono ?_
  rintro e w1 ⟨x, rfl, hx, hE1⟩
  have hB := mkHid (hE1.blk (heap_alloc_new _ _))
  replace hE1 := mkHid (((Ext.refl w).al _).trans hE1)
  replace hx := mkHid hx
  go_wp2_with fail
  refine (o2.out _).mono ?_
  rintro e w2 ⟨y, rfl, hy, hE2⟩
  replace hx := mkHid (hx.out.ext hE2)
  replace hB := mkHid (hE2.blk hB.out)
  replace hE1 := mkHid (hE1.out.trans hE2)
  replace hy := mkHid hy
  clear hE2
  go_wp2_with fail
  refine (lo.out _ _ _ hx.out hy.out).mono ?_
  rintro e w3 ⟨v, rfl, hv, hE3⟩
  have hBW := hE3.blk hB.out
  have hEW0 := hE1.out.trans hE3
  clear hE3 hE1 hx hy
  obtain ⟨x1, x2, x3, x4, y1, y2, y3, y4, rfl⟩ := hv.shape
  have FR := hv.flat hBW (by simp [flatV]) #[.bool x1, .slice x2 x3 x4, .bool y1, .slice y2 y3 y4]
  have FE := hEW0.row (show w.heap.size ≤ w.heap.size by omega) #[.bool x1, .slice x2 x3 x4, .bool y1, .slice y2 y3 y4]
  replace FR := mkHid FR
  replace FE := mkHid FE
  clear hv hEW0
  go_wp2_with (refine wpList_store_row rfl 26 (.tmp 4) (.tmp 9) rfl (w.heap.size) #[.bool x1, .slice x2 x3 x4, .bool y1, .slice y2 y3 y4] rfl rfl 26 _ hBW (by kernel_rfl) rfl (by kernel_rfl) ?_)
  exact bodyPost_ret (results_cell_row rfl _ _ (w.heap.size) 26 #[.bool x1, .slice x2 x3 x4, .bool y1, .slice y2 y3 y4] (0, 0) _ rfl (setRow_heap _ _ _ _ _ _ hBW) Tryz.underlying26 rfl (by kernel_rfl)) rfl ⟨_, rfl, FR.out, FE.out⟩
theorem rone_f (w : World) : Calls Tryz.prog 48 #[] w fun e w' => ∃ v, e = .returned v ∧ FracR w' v 1 ∧ Ext w w' := by
  have o1 := mkHid (fun w => rsmall_f 1 1 w (by omega) (by omega) (by omega) (by omega) (by omega))
  go_enter Tryz.func48, Tryz.ntmps48
  go_wp2_with fail
  refine (o1.out _).mono ?_
  rintro e w3 ⟨v, rfl, hv, hE3⟩
  have hBW := hE3.blk (heap_alloc_new _ _)
  have hEW0 := ((Ext.refl w).al _).trans hE3
  rw [show Rat.divInt 1 1 = (1 : Rat) by decide] at hv
  clear hE3 o1
  obtain ⟨x1, x2, x3, x4, y1, y2, y3, y4, rfl⟩ := hv.shape
  have FR := hv.flat hBW (by simp [flatV]) #[.bool x1, .slice x2 x3 x4, .bool y1, .slice y2 y3 y4]
  have FE := hEW0.row (show w.heap.size ≤ w.heap.size by omega) #[.bool x1, .slice x2 x3 x4, .bool y1, .slice y2 y3 y4]
  replace FR := mkHid FR
  replace FE := mkHid FE
  clear hv hEW0
  go_wp2_with (refine wpList_store_row rfl 26 (.tmp 0) (.tmp 1) rfl (w.heap.size) #[.bool x1, .slice x2 x3 x4, .bool y1, .slice y2 y3 y4] rfl rfl 26 _ hBW (by kernel_rfl) rfl (by kernel_rfl) ?_)
  exact bodyPost_ret (results_cell_row rfl _ _ (w.heap.size) 26 #[.bool x1, .slice x2 x3 x4, .bool y1, .slice y2 y3 y4] (0, 0) _ rfl (setRow_heap _ _ _ _ _ _ hBW) Tryz.underlying26 rfl (by kernel_rfl)) rfl ⟨_, rfl, FR.out, FE.out⟩
theorem rnought_f (w : World) : Calls Tryz.prog 78 #[] w fun e w' => ∃ v, e = .returned v ∧ FracR w' v 0 ∧ Ext w w' := by
  have o1 := mkHid (fun w => rof_c 1 w (by omega) (by omega))
  go_enter Tryz.func78, Tryz.ntmps78
  go_wp2_with fail
  refine (o1.out _).mono ?_
  rintro e w3 ⟨v, rfl, hv, hE3⟩
  obtain ⟨y1, y2, y3, y4, rfl⟩ := hv.shape
  have hBW := hE3.blk (heap_alloc_new _ _)
  have hEW0 := ((Ext.refl w).al _).trans hE3
  have hz : IntR w3 (.agg #[.bool false, .slice none 0 0]) 0 := ⟨.slice none 0 0, by simp, by simp [lim_zero]; exact magR_nil _⟩
  have R : FracR w3 (.agg #[.bool false, .slice none 0 0, .bool y1, .slice y2 y3 y4]) 0 := ⟨_, _, _, _, _, _, _, _, rfl, hz, hv⟩
  have FR := mkHid (R.flat hBW (by simp [flatV]) #[.bool false, .slice none 0 0, .bool y1, .slice y2 y3 y4])
  have FE := mkHid (hEW0.row (Nat.le_refl _) #[.bool false, .slice none 0 0, .bool y1, .slice y2 y3 y4])
  clear hv hE3 hz R hEW0
  go_wp2_with (refine wpList_store_row rfl 26 (.tmp 0) (.tmp 2) rfl w.heap.size #[.bool false, .slice none 0 0, .bool y1, .slice y2 y3 y4] rfl rfl 26 _ hBW (by kernel_rfl) rfl (by kernel_rfl) ?_)
  exact bodyPost_ret (results_cell_row rfl _ _ w.heap.size 26 #[.bool false, .slice none 0 0, .bool y1, .slice y2 y3 y4] (0, 0) _ rfl (setRow_heap _ _ _ _ _ _ hBW) Tryz.underlying26 rfl (by kernel_rfl)) rfl ⟨_, rfl, FR.out, FE.out⟩
end Go.Proofs.YtpmfohhpaoagfaaGreat
namespace Go.Proofs.YtpmfohhpaoagfaaGreat
open Go Go.RowKit Go.Proofs
set_option maxHeartbeats 3200000 in
theorem rcheck_f (v : Value) (o : Option Rat) (w : World) (h : AnyF w v o) :
    Calls Tryz.prog 74 #[v] w fun e w' => e = .returned (.int .i64 (if o.isSome then 0 else 1)) ∧ Ext w w' := by
  obtain ⟨b1, l1, b2, l2, ⟨a1, c1, a2, c2, rfl, h2, h3, h4, h5⟩, rfl⟩ := h
  have k1 := mkHid (fun w h => rcheck_c (.agg #[.bool b1, .slice a1 l1.length c1]) b1 l1 w h2 h)
  have k2 := mkHid (fun w h => rcheck_c (.agg #[.bool b2, .slice a2 l2.length c2]) b2 l2 w h3 h)
  replace h4 := mkHid h4
  replace h5 := mkHid h5
  by_cases g1 : goodI b1 l1 = true
  · rw [if_pos g1] at k1
    by_cases g2 : goodI b2 l2 = true
    · rw [if_pos g2] at k2
      obtain ⟨i1, n1⟩ := any_int h4.out g1
      obtain ⟨i2, n2⟩ := any_int h5.out g2
      have hn1 : nl (sg b1 (val l1)) ≤ 268435456 := Nat.le_trans n1 (by decide)
      have hn2 : nl (sg b2 (val l2)) ≤ 268435456 := Nat.le_trans n2 (by decide)
      have hr : (ratF b1 l1 b2 l2).isSome = decide (0 < sg b2 (val l2) ∧ Int.gcd (sg b1 (val l1)) (sg b2 (val l2)) = 1) := by
        unfold ratF okF
        rw [g1, g2]
        by_cases u1 : 0 < sg b2 (val l2) <;> by_cases u2 : Int.gcd (sg b1 (val l1)) (sg b2 (val l2)) = 1 <;> simp [u1, u2]
      rw [hr]
      clear hr g1 g2 h2 h3 n1 n2
      generalize sg b1 (val l1) = X at *
      generalize sg b2 (val l2) = Y at *
      have hsg := mkHid (fun w h => rsign_c (.agg #[.bool b2, .slice a2 l2.length c2]) Y w h (Nat.le_trans hn2 (by decide)))
      have hcm := mkHid (fun w h h' => rcomm_c (.agg #[.bool b1, .slice a1 l1.length c1]) (.agg #[.bool b2, .slice a2 l2.length c2]) X Y w hn1 hn2 h h')
      replace i1 := mkHid i1
      replace i2 := mkHid i2
      by_cases hy : 0 < Y
      · have hs : Y.sign = 1 := Int.sign_eq_one_of_pos hy
        rw [hs] at hsg
        have hgl : nl (Int.gcd X Y : Nat) ≤ 1073741824 := by
          refine Nat.le_trans (lim_mono ?_) (Nat.le_trans hn2 (by decide))
          rw [Int.natAbs_natCast]
          exact Nat.le_of_dvd (by omega) (by simpa using (Int.natAbs_dvd_natAbs.2 (Int.gcd_dvd_right X Y)))
        have hof := mkHid (fun w => rof_c 1 w (by omega) (by omega))
        by_cases hg : Int.gcd X Y = 1
        · rw [if_pos (decide_eq_true ⟨hy, hg⟩)]
          have hcp := mkHid (fun v1 v2 w h1 h2 => rbelow_c v1 v2 1 (Int.gcd X Y : Nat) w nl_one hgl h1 h2)
          rw [show decide ((1 : Int) < ((Int.gcd X Y : Nat) : Int)) = false by rw [hg]; rfl] at hcp
          clear hs hgl hn1 hn2
          generalize Int.gcd X Y = G at *
          replace hy := mkHid hy
          replace hg := mkHid hg
          go_enter Tryz.func74, Tryz.ntmps74
          go_wp2_with fail
          refine (k1.out _ (h4.out.ext ((Ext.refl w).al _))).mono ?_
          rintro e w1 ⟨rfl, hE1⟩
          have hb := row4_cells (hE1.blk (heap_alloc_new w _))
          have E1 := ((Ext.refl w).al _).trans hE1
          replace k2 := mkHid (k2.out w1 (h5.out.ext E1))
          replace hb := hb
          have hE1' := mkHid hE1
          replace E1 := mkHid E1
          clear hE1 k1
          go_wp2_with fail
          refine k2.out.mono ?_
          rintro e w2 ⟨rfl, hE2⟩
          have hE12 := hE1'.out.trans hE2
          replace hb := row4_cells (hE12.blk (heap_alloc_new w _))
          replace E1 := mkHid (E1.out.trans hE2)
          replace hE12 := mkHid hE12
          clear hE2 k2 hE1'
          go_wp2_with fail
          refine (hsg.out w2 (i2.out.ext E1.out)).mono ?_
          rintro e w3 ⟨rfl, hE3⟩
          replace hE12 := mkHid (hE12.out.trans hE3)
          replace hb := row4_cells (hE12.out.blk (heap_alloc_new w _))
          replace E1 := mkHid (E1.out.trans hE3)
          clear hE3
          go_wp2_with fail
          refine (hcm.out w3 (i1.out.ext E1.out) (i2.out.ext E1.out)).mono ?_
          rintro e w4 ⟨vg, rfl, hgv, hE4⟩
          obtain ⟨bg, ag, ng, mg, rfl⟩ := hgv.shape
          replace E1 := mkHid (E1.out.trans hE4)
          replace hgv := mkHid hgv
          clear hE4 hb hE12
          go_wp2_with fail
          obtain ⟨wc, hwc⟩ : ∃ wc, wc = w4.alloc (.cells #[.bool bg, .slice ag ng mg] 24) := ⟨_, rfl⟩
          have hEc : Ext w4 wc := by rw [hwc]; exact (Ext.refl _).al _
          have m0 : ∀ W', Ext wc W' → W'.cell? ⟨w4.heap.size, 0, none⟩ = some (.bool bg) := fun W' e => e.cell (by rw [hwc]; go_simp)
          have n0 : ∀ W', Ext wc W' → W'.cell? ⟨w4.heap.size, 1, none⟩ = some (.slice ag ng mg) := fun W' e => e.cell (by rw [hwc]; go_simp)
          rw [← hwc]
          replace hgv := mkHid (hgv.out.ext hEc)
          replace E1 := mkHid (E1.out.trans hEc)
          clear hwc hEc
          apply region_ext [.pred (fun W v => IntR W v 1), .val _, .val (.bool false)] (by kernel_rfl) (st_intR _ (stable_vals _ (stable_vals _ trivial)))
          refine ⟨fun W hW hF => ?g0, fun v0 => ?_⟩
          case g0 =>
            go_simp
            refine (hof.out W).mono ?_
            rintro e w' ⟨v, rfl, h1, h2⟩
            exact ⟨v, rfl, h2, h1⟩
          refine ⟨fun W hW _ => by go_simp; exact ⟨Ext.refl _, rfl⟩, ?_⟩
          refine ⟨fun W hW hF => ?g2, fun W hW hF => ?fin⟩
          case g2 =>
            have d0 : IntR W v0 1 := hF.1 (by kernel_rfl)
            replace d0 := mkHid d0
            clear hF
            go_simp
            refine (hcp.out _ _ W d0.out (hgv.out.ext hW)).mono ?_
            rintro e w' ⟨rfl, hE'⟩
            exact ⟨rfl, hE'⟩
          case fin =>
            replace E1 := mkHid (E1.out.trans hW)
            clear hF m0 n0 hW
            go_simp
            go_wp2_with fail
            go_ret
            exact ⟨rfl, E1.out⟩
        · rw [if_neg (fun h => hg (of_decide_eq_true h).2)]
          have hcp := mkHid (fun v1 v2 w h1 h2 => rbelow_c v1 v2 1 (Int.gcd X Y : Nat) w nl_one hgl h1 h2)
          have hg2 : Int.gcd X Y ≠ 0 := by
            intro h
            have := (Int.gcd_eq_zero_iff.1 h).2
            omega
          rw [show decide ((1 : Int) < ((Int.gcd X Y : Nat) : Int)) = true by simp; omega] at hcp
          replace hg2 := mkHid hg2
          clear hs hgl hn1 hn2
          generalize Int.gcd X Y = G at *
          replace hy := mkHid hy
          replace hg := mkHid hg
          go_enter Tryz.func74, Tryz.ntmps74
          go_wp2_with fail
          refine (k1.out _ (h4.out.ext ((Ext.refl w).al _))).mono ?_
          rintro e w1 ⟨rfl, hE1⟩
          have hb := row4_cells (hE1.blk (heap_alloc_new w _))
          have E1 := ((Ext.refl w).al _).trans hE1
          replace k2 := mkHid (k2.out w1 (h5.out.ext E1))
          replace hb := hb
          have hE1' := mkHid hE1
          replace E1 := mkHid E1
          clear hE1 k1
          go_wp2_with fail
          refine k2.out.mono ?_
          rintro e w2 ⟨rfl, hE2⟩
          have hE12 := hE1'.out.trans hE2
          replace hb := row4_cells (hE12.blk (heap_alloc_new w _))
          replace E1 := mkHid (E1.out.trans hE2)
          replace hE12 := mkHid hE12
          clear hE2 k2 hE1'
          go_wp2_with fail
          refine (hsg.out w2 (i2.out.ext E1.out)).mono ?_
          rintro e w3 ⟨rfl, hE3⟩
          replace hE12 := mkHid (hE12.out.trans hE3)
          replace hb := row4_cells (hE12.out.blk (heap_alloc_new w _))
          replace E1 := mkHid (E1.out.trans hE3)
          clear hE3
          go_wp2_with fail
          refine (hcm.out w3 (i1.out.ext E1.out) (i2.out.ext E1.out)).mono ?_
          rintro e w4 ⟨vg, rfl, hgv, hE4⟩
          obtain ⟨bg, ag, ng, mg, rfl⟩ := hgv.shape
          replace E1 := mkHid (E1.out.trans hE4)
          replace hgv := mkHid hgv
          clear hE4 hb hE12
          go_wp2_with fail
          obtain ⟨wc, hwc⟩ : ∃ wc, wc = w4.alloc (.cells #[.bool bg, .slice ag ng mg] 24) := ⟨_, rfl⟩
          have hEc : Ext w4 wc := by rw [hwc]; exact (Ext.refl _).al _
          have m0 : ∀ W', Ext wc W' → W'.cell? ⟨w4.heap.size, 0, none⟩ = some (.bool bg) := fun W' e => e.cell (by rw [hwc]; go_simp)
          have n0 : ∀ W', Ext wc W' → W'.cell? ⟨w4.heap.size, 1, none⟩ = some (.slice ag ng mg) := fun W' e => e.cell (by rw [hwc]; go_simp)
          rw [← hwc]
          replace hgv := mkHid (hgv.out.ext hEc)
          replace E1 := mkHid (E1.out.trans hEc)
          clear hwc hEc
          apply region_ext [.pred (fun W v => IntR W v 1), .val _, .val (.bool true)] (by kernel_rfl) (st_intR _ (stable_vals _ (stable_vals _ trivial)))
          refine ⟨fun W hW hF => ?g0, fun v0 => ?_⟩
          case g0 =>
            go_simp
            refine (hof.out W).mono ?_
            rintro e w' ⟨v, rfl, h1, h2⟩
            exact ⟨v, rfl, h2, h1⟩
          refine ⟨fun W hW _ => by go_simp; exact ⟨Ext.refl _, rfl⟩, ?_⟩
          refine ⟨fun W hW hF => ?g2, fun W hW hF => ?fin⟩
          case g2 =>
            have d0 : IntR W v0 1 := hF.1 (by kernel_rfl)
            replace d0 := mkHid d0
            clear hF
            go_simp
            refine (hcp.out _ _ W d0.out (hgv.out.ext hW)).mono ?_
            rintro e w' ⟨rfl, hE'⟩
            exact ⟨rfl, hE'⟩
          case fin =>
            replace E1 := mkHid (E1.out.trans hW)
            clear hF m0 n0 hW
            go_simp
            go_wp2_with fail
            go_ret
            exact ⟨rfl, E1.out⟩
      · rw [if_neg (fun h => hy (of_decide_eq_true h).1)]
        have hs : Y.sign ≤ 0 := by
          rcases Int.lt_trichotomy Y 0 with h | h | h
          · rw [Int.sign_eq_neg_one_of_neg h]; decide
          · rw [h]; decide
          · exact absurd h hy
        generalize Y.sign = S at *
        replace hy := mkHid hy
        go_enter Tryz.func74, Tryz.ntmps74
        go_wp2_with fail
        refine (k1.out _ (h4.out.ext ((Ext.refl w).al _))).mono ?_
        rintro e w1 ⟨rfl, hE1⟩
        have hb := row4_cells (hE1.blk (heap_alloc_new w _))
        have E1 := ((Ext.refl w).al _).trans hE1
        replace k2 := mkHid (k2.out w1 (h5.out.ext E1))
        replace hb := hb
        have hE1' := mkHid hE1
        replace E1 := mkHid E1
        clear hE1 k1
        go_wp2_with fail
        refine k2.out.mono ?_
        rintro e w2 ⟨rfl, hE2⟩
        have hE12 := hE1'.out.trans hE2
        replace hb := row4_cells (hE12.blk (heap_alloc_new w _))
        replace E1 := mkHid (E1.out.trans hE2)
        replace hE12 := mkHid hE12
        clear hE2 k2 hE1'
        go_wp2_with fail
        refine (hsg.out w2 (i2.out.ext E1.out)).mono ?_
        rintro e w3 ⟨rfl, hE3⟩
        replace E1 := mkHid (E1.out.trans hE3)
        clear hE3
        go_wp2_with fail
        go_ret
        exact ⟨rfl, E1.out⟩
    · rw [if_neg g2] at k2
      have ho : ratF b1 l1 b2 l2 = none := by unfold ratF okF; simp [g2]
      rw [ho]
      clear ho g1 g2 h2 h3
      simp only [Option.isSome_none]
      rw [if_neg (by decide)]
      go_enter Tryz.func74, Tryz.ntmps74
      go_wp2_with fail
      refine (k1.out _ (h4.out.ext ((Ext.refl w).al _))).mono ?_
      rintro e w1 ⟨rfl, hE1⟩
      have hb := row4_cells (hE1.blk (heap_alloc_new w _))
      have E1 := ((Ext.refl w).al _).trans hE1
      replace k2 := mkHid (k2.out w1 (h5.out.ext E1))
      replace hb := hb
      have hE1' := mkHid hE1
      replace E1 := mkHid E1
      clear hE1 k1
      go_wp2_with fail
      refine k2.out.mono ?_
      rintro e w2 ⟨rfl, hE2⟩
      have hE12 := hE1'.out.trans hE2
      replace hb := row4_cells (hE12.blk (heap_alloc_new w _))
      replace E1 := mkHid (E1.out.trans hE2)
      replace hE12 := mkHid hE12
      clear hE2 k2 hE1'
      go_wp2_with fail
      go_ret
      exact ⟨rfl, E1.out⟩
  · rw [if_neg g1] at k1
    have ho : ratF b1 l1 b2 l2 = none := by unfold ratF okF; simp [g1]
    rw [ho]
    clear ho g1 h2 h3
    simp only [Option.isSome_none]
    rw [if_neg (by decide)]
    go_enter Tryz.func74, Tryz.ntmps74
    go_wp2_with fail
    refine (k1.out _ (h4.out.ext ((Ext.refl w).al _))).mono ?_
    rintro e w1 ⟨rfl, hE1⟩
    replace hE1 := mkHid (((Ext.refl w).al _).trans hE1)
    go_wp2_with fail
    go_ret
    exact ⟨rfl, hE1.out⟩
set_option maxHeartbeats 1600000 in
theorem rchecks_f (g cap : Nat) (os : List (Option Rat)) (w : World) (hn : os.length ≤ 4294967296) (h : LF w g os) :
    Calls Tryz.prog 46 #[.slice (some ⟨g, 0, none⟩) os.length cap] w fun e w' => e = .returned (.bool (os.all Option.isSome)) ∧ Ext w w' := by
  replace h := mkHid h
  obtain ⟨n, hnn⟩ : ∃ n, n = os.length := ⟨_, rfl⟩
  rw [← hnn]
  obtain ⟨r, hr⟩ : ∃ r, r = os.all Option.isSome := ⟨_, rfl⟩
  rw [← hr]
  have hn2 : n ≤ 4294967296 := by omega
  replace hnn := mkHid hnn
  replace hr := mkHid hr
  clear hn
  obtain ⟨wo, hwo⟩ : ∃ wo : World, wo = w := ⟨_, rfl⟩
  go_enter Tryz.func46, Tryz.ntmps46
  go_wp2_with fail
  go_loopw [3] (fun i wr => ∃ k, k ≤ n ∧ i = .int .i64 (k : Nat) ∧ Ext wo wr ∧ ∀ j, j < k → (os.getD j none).isSome = true) (fun i _ => n - (intOf i).toNat)
  case atStart => exact ⟨0, Nat.zero_le _, rfl, hwo ▸ Ext.refl _, fun j hj => absurd hj (by omega)⟩
  case round =>
    obtain ⟨k, hk, rfl, hE, hj⟩ := hrel
    by_cases hlt : k < n
    · obtain ⟨b1, a1, n1, c1, b2, a2, n2, c2, h1, h2, h3, h4, h5⟩ := (h.out.ext (hwo ▸ hE)) k (by rw [← hnn.out]; exact hlt)
      have hck := mkHid (fun w h => rcheck_f (.agg #[.bool b1, .slice a1 n1 c1, .bool b2, .slice a2 n2 c2]) (os.getD k none) w h)
      obtain ⟨o, ho⟩ : ∃ o, o = os.getD k none := ⟨_, rfl⟩
      rw [← ho] at hck h5
      replace h5 := mkHid h5
      replace hE := mkHid hE
      replace hj := mkHid hj
      replace ho := mkHid ho
      cases o with
      | none =>
        have hf : r = false := by
          rw [hr.out, Bool.eq_false_iff]
          intro e
          rw [List.all_eq_true] at e
          have hkl : k < os.length := by rw [← hnn.out]; exact hlt
          have := e _ (List.getElem_mem hkl)
          have h2 := ho.out
          rw [List.getD_eq_getElem?_getD, List.getElem?_eq_getElem hkl] at h2
          simp at h2
          rw [← h2] at this
          cases this
        subst hf
        simp only [Option.isSome_none] at hck
        go_wp2_with fail
        refine (hck.out _ h5.out).mono ?_
        rintro e w2 ⟨rfl, hE2⟩
        replace hE := mkHid (hE.out.trans hE2)
        clear hE2 h1 h2 h3 h4
        go_wp2_with fail
        go_ret
        exact ⟨rfl, hwo ▸ hE.out⟩
      | some x =>
        simp only [Option.isSome_some] at hck
        go_wp2_with fail
        refine (hck.out _ h5.out).mono ?_
        rintro e w2 ⟨rfl, hE2⟩
        replace hE := mkHid (hE.out.trans hE2)
        clear hE2 h1 h2 h3 h4
        go_wp2_with fail
        go_roundw
        case rel =>
          refine ⟨k + 1, by omega, by go_num, hE.out, fun j hjk => ?_⟩
          rcases Nat.lt_or_ge j k with h | h
          · exact hj.out j h
          · obtain rfl : j = k := by omega
            rw [← ho.out]
            rfl
        case measure => simp [intOf] <;> omega
    · obtain rfl : n = k := by omega
      have hf : r = true := by
        rw [hr.out, List.all_eq_true]
        intro x hx
        obtain ⟨j, hjl, rfl⟩ := List.getElem_of_mem hx
        have := hj j (by rw [hnn.out]; exact hjl)
        rwa [List.getD_eq_getElem?_getD, List.getElem?_eq_getElem hjl] at this
      subst hf
      replace hE := mkHid hE
      replace hj := mkHid hj
      go_wp2_with fail
      go_ret
      exact ⟨rfl, hwo ▸ hE.out⟩
end Go.Proofs.YtpmfohhpaoagfaaGreat
