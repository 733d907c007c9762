/-
  polestarref09: cross, pair, Times, Gone, One: printed by tools/gen_ref9.py. polestarref09: One, May, MayRay; polestarref14: like: printed by tools/gen_ref14.py.
-/
import Derived.Test.YtpmfohhpaoagfaaGreatMAM
import Derived.Test.YtpmfohhpaoagfaaGreatMAH
import Derived.Test.YtpmfohhpaoagfaaGreatMAF
import Derived.Test.YtpmfohhpaoagfaaGreatMAI
namespace Go.Proofs.YtpmfohhpaoagfaaGreat
open Go Go.RowKit Go.Proofs

set_option maxRecDepth 100000 in
set_option maxHeartbeats 3200000 in
theorem rcross_f (v1 v2 v3 v4 : Value) (x y z t : Rat) (w : World) (hX1 : nf x ≤ 16777216) (hX2 : nf y ≤ 16777216) (hX3 : nf z ≤ 16777216) (hX4 : nf t ≤ 16777216) (h1 : FracR w v1 x) (h2 : FracR w v2 y) (h3 : FracR w v3 z) (h4 : FracR w v4 t) :
    Calls Tryz.prog 47 #[v1, v2, v3, v4] w fun e w' => ∃ v, e = .returned v ∧ FracR w' v (x * t - y * z) ∧ Ext w w' := by
  have H1 := h1
  have H2 := h2
  have H3 := h3
  have H4 := h4
  obtain ⟨p1, q1, r1, s1, t1, u1, f1, g1, rfl⟩ := h1.shape
  obtain ⟨p2, q2, r2, s2, t2, u2, f2, g2, rfl⟩ := h2.shape
  obtain ⟨p3, q3, r3, s3, t3, u3, f3, g3, rfl⟩ := h3.shape
  obtain ⟨p4, q4, r4, s4, t4, u4, f4, g4, rfl⟩ := h4.shape
  have bn1 : nl x.num ≤ 16777216 := Nat.le_trans (Nat.le_max_left _ _) hX1
  have bd1 : nl (x.den : Int) ≤ 16777216 := Nat.le_trans (Nat.le_max_right _ _) hX1
  have bn2 : nl y.num ≤ 16777216 := Nat.le_trans (Nat.le_max_left _ _) hX2
  have bd2 : nl (y.den : Int) ≤ 16777216 := Nat.le_trans (Nat.le_max_right _ _) hX2
  have bn3 : nl z.num ≤ 16777216 := Nat.le_trans (Nat.le_max_left _ _) hX3
  have bd3 : nl (z.den : Int) ≤ 16777216 := Nat.le_trans (Nat.le_max_right _ _) hX3
  have bn4 : nl t.num ≤ 16777216 := Nat.le_trans (Nat.le_max_left _ _) hX4
  have bd4 : nl (t.den : Int) ≤ 16777216 := Nat.le_trans (Nat.le_max_right _ _) hX4
  have tA := mkHid (fun W (e : Ext w W) => rtimes_f _ _ x t W (Nat.le_trans hX1 (by decide)) (Nat.le_trans hX4 (by decide)) (H1.ext e) (H4.ext e))
  have tB := mkHid (fun W (e : Ext w W) => rtimes_f _ _ y z W (Nat.le_trans hX2 (by decide)) (Nat.le_trans hX3 (by decide)) (H2.ext e) (H3.ext e))
  have n1 := nf_mul_le x t
  have n2 := nf_mul_le y z
  have LO := mkHid (fun v v' W h h' => rminus_f v v' (x * t) (y * z) W (by omega) (by omega) h h')
  clear n1 n2
  clear h1 H1 h2 H2 h3 H3 h4 H4
  go_enter Tryz.func47, Tryz.ntmps47
  go_wp2_with fail
  obtain ⟨wb, hwb⟩ : ∃ wb, wb = (((((w.alloc (.cells #[.bool p1, .slice q1 r1 s1, .bool t1, .slice u1 f1 g1] 26)).alloc (.cells #[.bool p2, .slice q2 r2 s2, .bool t2, .slice u2 f2 g2] 26)).alloc (.cells #[.bool p3, .slice q3 r3 s3, .bool t3, .slice u3 f3 g3] 26)).alloc (.cells #[.bool p4, .slice q4 r4 s4, .bool t4, .slice u4 f4 g4] 26)).alloc (.cells #[.bool false, .slice none 0 0, .bool false, .slice none 0 0] 26)) := ⟨_, rfl⟩
  have hE : Ext w wb := by rw [hwb]; exact ((((((Ext.refl w).al _).al _).al _).al _).al _)
  have c10 : ∀ W, Ext wb W → W.cell? ⟨w.heap.size, 0, none⟩ = some (.bool p1) := fun W e => e.cell (by rw [hwb]; go_simp)
  have c11 : ∀ W, Ext wb W → W.cell? ⟨w.heap.size, 1, none⟩ = some (.slice q1 r1 s1) := fun W e => e.cell (by rw [hwb]; go_simp)
  have c12 : ∀ W, Ext wb W → W.cell? ⟨w.heap.size, 2, none⟩ = some (.bool t1) := fun W e => e.cell (by rw [hwb]; go_simp)
  have c13 : ∀ W, Ext wb W → W.cell? ⟨w.heap.size, 3, none⟩ = some (.slice u1 f1 g1) := fun W e => e.cell (by rw [hwb]; go_simp)
  have c20 : ∀ W, Ext wb W → W.cell? ⟨w.heap.size + 1, 0, none⟩ = some (.bool p2) := fun W e => e.cell (by rw [hwb]; go_simp)
  have c21 : ∀ W, Ext wb W → W.cell? ⟨w.heap.size + 1, 1, none⟩ = some (.slice q2 r2 s2) := fun W e => e.cell (by rw [hwb]; go_simp)
  have c22 : ∀ W, Ext wb W → W.cell? ⟨w.heap.size + 1, 2, none⟩ = some (.bool t2) := fun W e => e.cell (by rw [hwb]; go_simp)
  have c23 : ∀ W, Ext wb W → W.cell? ⟨w.heap.size + 1, 3, none⟩ = some (.slice u2 f2 g2) := fun W e => e.cell (by rw [hwb]; go_simp)
  have c30 : ∀ W, Ext wb W → W.cell? ⟨w.heap.size + 2, 0, none⟩ = some (.bool p3) := fun W e => e.cell (by rw [hwb]; go_simp)
  have c31 : ∀ W, Ext wb W → W.cell? ⟨w.heap.size + 2, 1, none⟩ = some (.slice q3 r3 s3) := fun W e => e.cell (by rw [hwb]; go_simp)
  have c32 : ∀ W, Ext wb W → W.cell? ⟨w.heap.size + 2, 2, none⟩ = some (.bool t3) := fun W e => e.cell (by rw [hwb]; go_simp)
  have c33 : ∀ W, Ext wb W → W.cell? ⟨w.heap.size + 2, 3, none⟩ = some (.slice u3 f3 g3) := fun W e => e.cell (by rw [hwb]; go_simp)
  have c40 : ∀ W, Ext wb W → W.cell? ⟨w.heap.size + 3, 0, none⟩ = some (.bool p4) := fun W e => e.cell (by rw [hwb]; go_simp)
  have c41 : ∀ W, Ext wb W → W.cell? ⟨w.heap.size + 3, 1, none⟩ = some (.slice q4 r4 s4) := fun W e => e.cell (by rw [hwb]; go_simp)
  have c42 : ∀ W, Ext wb W → W.cell? ⟨w.heap.size + 3, 2, none⟩ = some (.bool t4) := fun W e => e.cell (by rw [hwb]; go_simp)
  have c43 : ∀ W, Ext wb W → W.cell? ⟨w.heap.size + 3, 3, none⟩ = some (.slice u4 f4 g4) := fun W e => e.cell (by rw [hwb]; go_simp)
  have hB : wb.heap[w.heap.size + 4]? = some (.cells #[.bool false, .slice none 0 0, .bool false, .slice none 0 0] 26) := by rw [hwb]; exact heap_at _ _ _ (by simp)
  rw [← hwb]
  replace hB := mkHid hB
  replace hE := mkHid hE
  clear hwb
  apply region_ext [.val _, .val _, .pred (fun W v => FracR W v (x * t)), .val _, .val _, .pred (fun W v => FracR W v (y * z)), .pred (fun W v => FracR W v (x * t - y * z))] (by kernel_rfl) (stable_vals _ (stable_vals _ (st_fracR _ (stable_vals _ (stable_vals _ (st_fracR _ (st_fracR _ trivial)))))))
  refine ⟨fun W hW _ => by go_simp; exact ⟨Ext.refl _, rfl⟩, ?_⟩
  refine ⟨fun W hW _ => by go_simp; exact ⟨Ext.refl _, rfl⟩, ?_⟩
  refine ⟨fun W hW hF => ?fing2, fun v102 => ?_⟩
  case fing2 =>
    clear hF
    go_simp
    refine (tA.out W (hE.out.trans hW)).mono ?_
    rintro e w' ⟨v, rfl, h1, h2⟩
    exact ⟨v, rfl, h2, h1⟩
  refine ⟨fun W hW _ => by go_simp; exact ⟨Ext.refl _, rfl⟩, ?_⟩
  refine ⟨fun W hW _ => by go_simp; exact ⟨Ext.refl _, rfl⟩, ?_⟩
  refine ⟨fun W hW hF => ?fing5, fun v105 => ?_⟩
  case fing5 =>
    clear hF
    go_simp
    refine (tB.out W (hE.out.trans hW)).mono ?_
    rintro e w' ⟨v, rfl, h1, h2⟩
    exact ⟨v, rfl, h2, h1⟩
  refine ⟨fun W hW hF => ?fing6, fun v106 => fun W hW hF => ?fin⟩
  case fing6 =>
    have d2 : FracR W v102 (x * t) := hF.2.1 (by kernel_rfl)
    replace d2 := mkHid d2
    have d5 : FracR W v105 (y * z) := hF.1 (by kernel_rfl)
    replace d5 := mkHid d5
    clear hF
    go_simp
    refine (LO.out _ _ W d2.out d5.out).mono ?_
    rintro e w' ⟨v, rfl, h1, h2⟩
    exact ⟨v, rfl, h2, h1⟩
  case fin =>
    have R : FracR W v106 (x * t - y * z) := hF.1 rfl
    obtain ⟨x1, x2, x3, x4, y1, y2, y3, y4, rfl⟩ := R.shape
    have hBW := hW.blk hB.out
    have FR := mkHid (R.flat hBW (by simp [flatV]) #[.bool x1, .slice x2 x3 x4, .bool y1, .slice y2 y3 y4])
    have FE := mkHid ((hE.out.trans hW).row (show w.heap.size ≤ w.heap.size + 4 by omega) #[.bool x1, .slice x2 x3 x4, .bool y1, .slice y2 y3 y4])
    clear hF R c10 c11 c12 c13 c20 c21 c22 c23 c30 c31 c32 c33 c40 c41 c42 c43 hW
    go_simp
    go_wp2_with (refine wpList_store_row rfl 26 (.tmp 8) (.tmp 15) rfl (w.heap.size + 4) #[.bool x1, .slice x2 x3 x4, .bool y1, .slice y2 y3 y4] rfl rfl 26 _ hBW (by kernel_rfl) rfl (by kernel_rfl) ?_)
    exact bodyPost_ret (results_cell_row rfl _ _ (w.heap.size + 4) 26 #[.bool x1, .slice x2 x3 x4, .bool y1, .slice y2 y3 y4] (0, 0) _ rfl (setRow_heap _ _ _ _ _ _ hBW) Tryz.underlying26 rfl (by kernel_rfl)) rfl ⟨_, rfl, FR.out, FE.out⟩

set_option maxRecDepth 100000 in
set_option maxHeartbeats 3200000 in
theorem rpair_f (v1 v2 v3 v4 : Value) (x y z t : Rat) (w : World) (hX1 : nf x ≤ 16777216) (hX2 : nf y ≤ 16777216) (hX3 : nf z ≤ 16777216) (hX4 : nf t ≤ 16777216) (h1 : FracR w v1 x) (h2 : FracR w v2 y) (h3 : FracR w v3 z) (h4 : FracR w v4 t) :
    Calls Tryz.prog 59 #[v1, v2, v3, v4] w fun e w' => ∃ v, e = .returned v ∧ FracR w' v (x * y + z * t) ∧ Ext w w' := by
  have H1 := h1
  have H2 := h2
  have H3 := h3
  have H4 := h4
  obtain ⟨p1, q1, r1, s1, t1, u1, f1, g1, rfl⟩ := h1.shape
  obtain ⟨p2, q2, r2, s2, t2, u2, f2, g2, rfl⟩ := h2.shape
  obtain ⟨p3, q3, r3, s3, t3, u3, f3, g3, rfl⟩ := h3.shape
  obtain ⟨p4, q4, r4, s4, t4, u4, f4, g4, rfl⟩ := h4.shape
  have bn1 : nl x.num ≤ 16777216 := Nat.le_trans (Nat.le_max_left _ _) hX1
  have bd1 : nl (x.den : Int) ≤ 16777216 := Nat.le_trans (Nat.le_max_right _ _) hX1
  have bn2 : nl y.num ≤ 16777216 := Nat.le_trans (Nat.le_max_left _ _) hX2
  have bd2 : nl (y.den : Int) ≤ 16777216 := Nat.le_trans (Nat.le_max_right _ _) hX2
  have bn3 : nl z.num ≤ 16777216 := Nat.le_trans (Nat.le_max_left _ _) hX3
  have bd3 : nl (z.den : Int) ≤ 16777216 := Nat.le_trans (Nat.le_max_right _ _) hX3
  have bn4 : nl t.num ≤ 16777216 := Nat.le_trans (Nat.le_max_left _ _) hX4
  have bd4 : nl (t.den : Int) ≤ 16777216 := Nat.le_trans (Nat.le_max_right _ _) hX4
  have tA := mkHid (fun W (e : Ext w W) => rtimes_f _ _ x y W (Nat.le_trans hX1 (by decide)) (Nat.le_trans hX2 (by decide)) (H1.ext e) (H2.ext e))
  have tB := mkHid (fun W (e : Ext w W) => rtimes_f _ _ z t W (Nat.le_trans hX3 (by decide)) (Nat.le_trans hX4 (by decide)) (H3.ext e) (H4.ext e))
  have n1 := nf_mul_le x y
  have n2 := nf_mul_le z t
  have LO := mkHid (fun v v' W h h' => rplus_f v v' (x * y) (z * t) W (by omega) (by omega) h h')
  clear n1 n2
  clear h1 H1 h2 H2 h3 H3 h4 H4
  go_enter Tryz.func59, Tryz.ntmps59
  go_wp2_with fail
  obtain ⟨wb, hwb⟩ : ∃ wb, wb = (((((w.alloc (.cells #[.bool p1, .slice q1 r1 s1, .bool t1, .slice u1 f1 g1] 26)).alloc (.cells #[.bool p2, .slice q2 r2 s2, .bool t2, .slice u2 f2 g2] 26)).alloc (.cells #[.bool p3, .slice q3 r3 s3, .bool t3, .slice u3 f3 g3] 26)).alloc (.cells #[.bool p4, .slice q4 r4 s4, .bool t4, .slice u4 f4 g4] 26)).alloc (.cells #[.bool false, .slice none 0 0, .bool false, .slice none 0 0] 26)) := ⟨_, rfl⟩
  have hE : Ext w wb := by rw [hwb]; exact ((((((Ext.refl w).al _).al _).al _).al _).al _)
  have c10 : ∀ W, Ext wb W → W.cell? ⟨w.heap.size, 0, none⟩ = some (.bool p1) := fun W e => e.cell (by rw [hwb]; go_simp)
  have c11 : ∀ W, Ext wb W → W.cell? ⟨w.heap.size, 1, none⟩ = some (.slice q1 r1 s1) := fun W e => e.cell (by rw [hwb]; go_simp)
  have c12 : ∀ W, Ext wb W → W.cell? ⟨w.heap.size, 2, none⟩ = some (.bool t1) := fun W e => e.cell (by rw [hwb]; go_simp)
  have c13 : ∀ W, Ext wb W → W.cell? ⟨w.heap.size, 3, none⟩ = some (.slice u1 f1 g1) := fun W e => e.cell (by rw [hwb]; go_simp)
  have c20 : ∀ W, Ext wb W → W.cell? ⟨w.heap.size + 1, 0, none⟩ = some (.bool p2) := fun W e => e.cell (by rw [hwb]; go_simp)
  have c21 : ∀ W, Ext wb W → W.cell? ⟨w.heap.size + 1, 1, none⟩ = some (.slice q2 r2 s2) := fun W e => e.cell (by rw [hwb]; go_simp)
  have c22 : ∀ W, Ext wb W → W.cell? ⟨w.heap.size + 1, 2, none⟩ = some (.bool t2) := fun W e => e.cell (by rw [hwb]; go_simp)
  have c23 : ∀ W, Ext wb W → W.cell? ⟨w.heap.size + 1, 3, none⟩ = some (.slice u2 f2 g2) := fun W e => e.cell (by rw [hwb]; go_simp)
  have c30 : ∀ W, Ext wb W → W.cell? ⟨w.heap.size + 2, 0, none⟩ = some (.bool p3) := fun W e => e.cell (by rw [hwb]; go_simp)
  have c31 : ∀ W, Ext wb W → W.cell? ⟨w.heap.size + 2, 1, none⟩ = some (.slice q3 r3 s3) := fun W e => e.cell (by rw [hwb]; go_simp)
  have c32 : ∀ W, Ext wb W → W.cell? ⟨w.heap.size + 2, 2, none⟩ = some (.bool t3) := fun W e => e.cell (by rw [hwb]; go_simp)
  have c33 : ∀ W, Ext wb W → W.cell? ⟨w.heap.size + 2, 3, none⟩ = some (.slice u3 f3 g3) := fun W e => e.cell (by rw [hwb]; go_simp)
  have c40 : ∀ W, Ext wb W → W.cell? ⟨w.heap.size + 3, 0, none⟩ = some (.bool p4) := fun W e => e.cell (by rw [hwb]; go_simp)
  have c41 : ∀ W, Ext wb W → W.cell? ⟨w.heap.size + 3, 1, none⟩ = some (.slice q4 r4 s4) := fun W e => e.cell (by rw [hwb]; go_simp)
  have c42 : ∀ W, Ext wb W → W.cell? ⟨w.heap.size + 3, 2, none⟩ = some (.bool t4) := fun W e => e.cell (by rw [hwb]; go_simp)
  have c43 : ∀ W, Ext wb W → W.cell? ⟨w.heap.size + 3, 3, none⟩ = some (.slice u4 f4 g4) := fun W e => e.cell (by rw [hwb]; go_simp)
  have hB : wb.heap[w.heap.size + 4]? = some (.cells #[.bool false, .slice none 0 0, .bool false, .slice none 0 0] 26) := by rw [hwb]; exact heap_at _ _ _ (by simp)
  rw [← hwb]
  replace hB := mkHid hB
  replace hE := mkHid hE
  clear hwb
  apply region_ext [.val _, .val _, .pred (fun W v => FracR W v (x * y)), .val _, .val _, .pred (fun W v => FracR W v (z * t)), .pred (fun W v => FracR W v (x * y + z * t))] (by kernel_rfl) (stable_vals _ (stable_vals _ (st_fracR _ (stable_vals _ (stable_vals _ (st_fracR _ (st_fracR _ trivial)))))))
  refine ⟨fun W hW _ => by go_simp; exact ⟨Ext.refl _, rfl⟩, ?_⟩
  refine ⟨fun W hW _ => by go_simp; exact ⟨Ext.refl _, rfl⟩, ?_⟩
  refine ⟨fun W hW hF => ?fing2, fun v102 => ?_⟩
  case fing2 =>
    clear hF
    go_simp
    refine (tA.out W (hE.out.trans hW)).mono ?_
    rintro e w' ⟨v, rfl, h1, h2⟩
    exact ⟨v, rfl, h2, h1⟩
  refine ⟨fun W hW _ => by go_simp; exact ⟨Ext.refl _, rfl⟩, ?_⟩
  refine ⟨fun W hW _ => by go_simp; exact ⟨Ext.refl _, rfl⟩, ?_⟩
  refine ⟨fun W hW hF => ?fing5, fun v105 => ?_⟩
  case fing5 =>
    clear hF
    go_simp
    refine (tB.out W (hE.out.trans hW)).mono ?_
    rintro e w' ⟨v, rfl, h1, h2⟩
    exact ⟨v, rfl, h2, h1⟩
  refine ⟨fun W hW hF => ?fing6, fun v106 => fun W hW hF => ?fin⟩
  case fing6 =>
    have d2 : FracR W v102 (x * y) := hF.2.1 (by kernel_rfl)
    replace d2 := mkHid d2
    have d5 : FracR W v105 (z * t) := hF.1 (by kernel_rfl)
    replace d5 := mkHid d5
    clear hF
    go_simp
    refine (LO.out _ _ W d2.out d5.out).mono ?_
    rintro e w' ⟨v, rfl, h1, h2⟩
    exact ⟨v, rfl, h2, h1⟩
  case fin =>
    have R : FracR W v106 (x * y + z * t) := hF.1 rfl
    obtain ⟨x1, x2, x3, x4, y1, y2, y3, y4, rfl⟩ := R.shape
    have hBW := hW.blk hB.out
    have FR := mkHid (R.flat hBW (by simp [flatV]) #[.bool x1, .slice x2 x3 x4, .bool y1, .slice y2 y3 y4])
    have FE := mkHid ((hE.out.trans hW).row (show w.heap.size ≤ w.heap.size + 4 by omega) #[.bool x1, .slice x2 x3 x4, .bool y1, .slice y2 y3 y4])
    clear hF R c10 c11 c12 c13 c20 c21 c22 c23 c30 c31 c32 c33 c40 c41 c42 c43 hW
    go_simp
    go_wp2_with (refine wpList_store_row rfl 26 (.tmp 8) (.tmp 15) rfl (w.heap.size + 4) #[.bool x1, .slice x2 x3 x4, .bool y1, .slice y2 y3 y4] rfl rfl 26 _ hBW (by kernel_rfl) rfl (by kernel_rfl) ?_)
    exact bodyPost_ret (results_cell_row rfl _ _ (w.heap.size + 4) 26 #[.bool x1, .slice x2 x3 x4, .bool y1, .slice y2 y3 y4] (0, 0) _ rfl (setRow_heap _ _ _ _ _ _ hBW) Tryz.underlying26 rfl (by kernel_rfl)) rfl ⟨_, rfl, FR.out, FE.out⟩

/-- A ray of two fractions that reads so. -/
def RayR (w : World) (v : Value) (y u : Rat) : Prop := ∃ P1 P2 P3 P4 P5 P6 P7 P8 Q1 Q2 Q3 Q4 Q5 Q6 Q7 Q8, v = .agg #[.bool P1, .slice P2 P3 P4, .bool P5, .slice P6 P7 P8, .bool Q1, .slice Q2 Q3 Q4, .bool Q5, .slice Q6 Q7 Q8] ∧ FracR w (.agg #[.bool P1, .slice P2 P3 P4, .bool P5, .slice P6 P7 P8]) y ∧ FracR w (.agg #[.bool Q1, .slice Q2 Q3 Q4, .bool Q5, .slice Q6 Q7 Q8]) u
theorem RayR.ext {w w' : World} {v : Value} {y u : Rat} (h : RayR w v y u) (e : Ext w w') : RayR w' v y u := by
  obtain ⟨P1, P2, P3, P4, P5, P6, P7, P8, Q1, Q2, Q3, Q4, Q5, Q6, Q7, Q8, h0, h1, h2⟩ := h
  exact ⟨P1, P2, P3, P4, P5, P6, P7, P8, Q1, Q2, Q3, Q4, Q5, Q6, Q7, Q8, h0, h1.ext e, h2.ext e⟩
theorem st_matR {ss : List FSpec} (a b c d : Rat) (h : StableAll Ext ss) : StableAll Ext (.pred (fun W v => MatR W v a b c d) :: ss) := ⟨fun _ _ _ e h => MatR.ext h e, h⟩
theorem st_rayR {ss : List FSpec} (y u : Rat) (h : StableAll Ext ss) : StableAll Ext (.pred (fun W v => RayR W v y u) :: ss) := ⟨fun _ _ _ e h => RayR.ext h e, h⟩
theorem MatR.shape {w : World} {v : Value} {a b c d : Rat} (h : MatR w v a b c d) : ∃ P1 P2 P3 P4 P5 P6 P7 P8 Q1 Q2 Q3 Q4 Q5 Q6 Q7 Q8 S1 S2 S3 S4 S5 S6 S7 S8 T1 T2 T3 T4 T5 T6 T7 T8, v = .agg #[.bool P1, .slice P2 P3 P4, .bool P5, .slice P6 P7 P8, .bool Q1, .slice Q2 Q3 Q4, .bool Q5, .slice Q6 Q7 Q8, .bool S1, .slice S2 S3 S4, .bool S5, .slice S6 S7 S8, .bool T1, .slice T2 T3 T4, .bool T5, .slice T6 T7 T8] := by
  obtain ⟨P1, P2, P3, P4, P5, P6, P7, P8, Q1, Q2, Q3, Q4, Q5, Q6, Q7, Q8, S1, S2, S3, S4, S5, S6, S7, S8, T1, T2, T3, T4, T5, T6, T7, T8, h0, -⟩ := h
  exact ⟨P1, P2, P3, P4, P5, P6, P7, P8, Q1, Q2, Q3, Q4, Q5, Q6, Q7, Q8, S1, S2, S3, S4, S5, S6, S7, S8, T1, T2, T3, T4, T5, T6, T7, T8, h0⟩

theorem MatR.flat {w : World} {v : Value} {a b c d : Rat} {g T : Nat} {fr : Nat × Nat} {old : Array Value} (h : MatR w v a b c d) (hg : w.heap[g]? = some (.cells old T fr)) (ho : old.all flatV = true) (cs : Array Value) : MatR (w.setRow g cs) v a b c d := by
  obtain ⟨P1, P2, P3, P4, P5, P6, P7, P8, Q1, Q2, Q3, Q4, Q5, Q6, Q7, Q8, S1, S2, S3, S4, S5, S6, S7, S8, T1, T2, T3, T4, T5, T6, T7, T8, h0, h1, h2, h3, h4⟩ := h
  exact ⟨P1, P2, P3, P4, P5, P6, P7, P8, Q1, Q2, Q3, Q4, Q5, Q6, Q7, Q8, S1, S2, S3, S4, S5, S6, S7, S8, T1, T2, T3, T4, T5, T6, T7, T8, h0, h1.flat hg ho cs, h2.flat hg ho cs, h3.flat hg ho cs, h4.flat hg ho cs⟩
theorem RayR.flat {w : World} {v : Value} {y u : Rat} {g T : Nat} {fr : Nat × Nat} {old : Array Value} (h : RayR w v y u) (hg : w.heap[g]? = some (.cells old T fr)) (ho : old.all flatV = true) (cs : Array Value) : RayR (w.setRow g cs) v y u := by
  obtain ⟨P1, P2, P3, P4, P5, P6, P7, P8, Q1, Q2, Q3, Q4, Q5, Q6, Q7, Q8, h0, h1, h2⟩ := h
  exact ⟨P1, P2, P3, P4, P5, P6, P7, P8, Q1, Q2, Q3, Q4, Q5, Q6, Q7, Q8, h0, h1.flat hg ho cs, h2.flat hg ho cs⟩

set_option maxRecDepth 100000 in
set_option maxHeartbeats 6400000 in
theorem rmtimes_f (v1 v2 : Value) (a b c d p q r s : Rat) (w : World) (hb_a : nf a ≤ 4194304) (hb_b : nf b ≤ 4194304) (hb_c : nf c ≤ 4194304) (hb_d : nf d ≤ 4194304) (hb_p : nf p ≤ 4194304) (hb_q : nf q ≤ 4194304) (hb_r : nf r ≤ 4194304) (hb_s : nf s ≤ 4194304) (h1 : MatR w v1 a b c d) (h2 : MatR w v2 p q r s) :
    Calls Tryz.prog 31 #[v1, v2] w fun e w' => ∃ v, e = .returned v ∧ MatR w' v (a * p + b * r) (a * q + b * s) (c * p + d * r) (c * q + d * s) ∧ Ext w w' := by
  obtain ⟨A1, A2, A3, A4, A5, A6, A7, A8, B1, B2, B3, B4, B5, B6, B7, B8, C1, C2, C3, C4, C5, C6, C7, C8, D1, D2, D3, D4, D5, D6, D7, D8, rfl, fA, fB, fC, fD⟩ := h1
  obtain ⟨P1, P2, P3, P4, P5, P6, P7, P8, Q1, Q2, Q3, Q4, Q5, Q6, Q7, Q8, S1, S2, S3, S4, S5, S6, S7, S8, T1, T2, T3, T4, T5, T6, T7, T8, rfl, fP, fQ, fS, fT⟩ := h2
  have K0 := mkHid (fun W (e : Ext w W) => rpair_f _ _ _ _ a p b r W (Nat.le_trans hb_a (by decide)) (Nat.le_trans hb_p (by decide)) (Nat.le_trans hb_b (by decide)) (Nat.le_trans hb_r (by decide)) (fA.ext e) (fP.ext e) (fB.ext e) (fS.ext e))
  have K1 := mkHid (fun W (e : Ext w W) => rpair_f _ _ _ _ a q b s W (Nat.le_trans hb_a (by decide)) (Nat.le_trans hb_q (by decide)) (Nat.le_trans hb_b (by decide)) (Nat.le_trans hb_s (by decide)) (fA.ext e) (fQ.ext e) (fB.ext e) (fT.ext e))
  have K2 := mkHid (fun W (e : Ext w W) => rpair_f _ _ _ _ c p d r W (Nat.le_trans hb_c (by decide)) (Nat.le_trans hb_p (by decide)) (Nat.le_trans hb_d (by decide)) (Nat.le_trans hb_r (by decide)) (fC.ext e) (fP.ext e) (fD.ext e) (fS.ext e))
  have K3 := mkHid (fun W (e : Ext w W) => rpair_f _ _ _ _ c q d s W (Nat.le_trans hb_c (by decide)) (Nat.le_trans hb_q (by decide)) (Nat.le_trans hb_d (by decide)) (Nat.le_trans hb_s (by decide)) (fC.ext e) (fQ.ext e) (fD.ext e) (fT.ext e))
  clear fA fB fC fD fP fQ fS fT hb_a hb_b hb_c hb_d hb_p hb_q hb_r hb_s
  go_enter Tryz.func31, Tryz.ntmps31
  go_wp2_with fail
  obtain ⟨wb, hwb⟩ : ∃ wb, wb = ((w.alloc (.cells #[.bool A1, .slice A2 A3 A4, .bool A5, .slice A6 A7 A8, .bool B1, .slice B2 B3 B4, .bool B5, .slice B6 B7 B8, .bool C1, .slice C2 C3 C4, .bool C5, .slice C6 C7 C8, .bool D1, .slice D2 D3 D4, .bool D5, .slice D6 D7 D8] 28)).alloc (.cells #[.bool P1, .slice P2 P3 P4, .bool P5, .slice P6 P7 P8, .bool Q1, .slice Q2 Q3 Q4, .bool Q5, .slice Q6 Q7 Q8, .bool S1, .slice S2 S3 S4, .bool S5, .slice S6 S7 S8, .bool T1, .slice T2 T3 T4, .bool T5, .slice T6 T7 T8] 28)).alloc (.cells #[.bool false, .slice none 0 0, .bool false, .slice none 0 0, .bool false, .slice none 0 0, .bool false, .slice none 0 0, .bool false, .slice none 0 0, .bool false, .slice none 0 0, .bool false, .slice none 0 0, .bool false, .slice none 0 0] 28) := ⟨_, rfl⟩
  have hE : Ext w wb := by rw [hwb]; exact (((Ext.refl w).al _).al _).al _
  have z0 : wb.heap[w.heap.size]? = some (.cells #[.bool A1, .slice A2 A3 A4, .bool A5, .slice A6 A7 A8, .bool B1, .slice B2 B3 B4, .bool B5, .slice B6 B7 B8, .bool C1, .slice C2 C3 C4, .bool C5, .slice C6 C7 C8, .bool D1, .slice D2 D3 D4, .bool D5, .slice D6 D7 D8] 28) := by rw [hwb]; exact (heap_alloc_old _ _ (by simp; omega)).trans ((heap_alloc_old _ _ (by simp)).trans (heap_alloc_new _ _))
  have z1 : wb.heap[w.heap.size + 1]? = some (.cells #[.bool P1, .slice P2 P3 P4, .bool P5, .slice P6 P7 P8, .bool Q1, .slice Q2 Q3 Q4, .bool Q5, .slice Q6 Q7 Q8, .bool S1, .slice S2 S3 S4, .bool S5, .slice S6 S7 S8, .bool T1, .slice T2 T3 T4, .bool T5, .slice T6 T7 T8] 28) := by rw [hwb]; exact (heap_alloc_old _ _ (by simp)).trans (heap_at _ _ _ (by simp))
  have hB : wb.heap[w.heap.size + 2]? = some (.cells #[.bool false, .slice none 0 0, .bool false, .slice none 0 0, .bool false, .slice none 0 0, .bool false, .slice none 0 0, .bool false, .slice none 0 0, .bool false, .slice none 0 0, .bool false, .slice none 0 0, .bool false, .slice none 0 0] 28) := by rw [hwb]; exact heap_at _ _ _ (by simp)
  have c0_0 : ∀ W, Ext wb W → W.cell? ⟨w.heap.size, 0, none⟩ = some (.bool A1) := fun W e => e.cell (by simp [World.cell?, z0])
  have c0_1 : ∀ W, Ext wb W → W.cell? ⟨w.heap.size, 1, none⟩ = some (.slice A2 A3 A4) := fun W e => e.cell (by simp [World.cell?, z0])
  have c0_2 : ∀ W, Ext wb W → W.cell? ⟨w.heap.size, 2, none⟩ = some (.bool A5) := fun W e => e.cell (by simp [World.cell?, z0])
  have c0_3 : ∀ W, Ext wb W → W.cell? ⟨w.heap.size, 3, none⟩ = some (.slice A6 A7 A8) := fun W e => e.cell (by simp [World.cell?, z0])
  have c0_4 : ∀ W, Ext wb W → W.cell? ⟨w.heap.size, 4, none⟩ = some (.bool B1) := fun W e => e.cell (by simp [World.cell?, z0])
  have c0_5 : ∀ W, Ext wb W → W.cell? ⟨w.heap.size, 5, none⟩ = some (.slice B2 B3 B4) := fun W e => e.cell (by simp [World.cell?, z0])
  have c0_6 : ∀ W, Ext wb W → W.cell? ⟨w.heap.size, 6, none⟩ = some (.bool B5) := fun W e => e.cell (by simp [World.cell?, z0])
  have c0_7 : ∀ W, Ext wb W → W.cell? ⟨w.heap.size, 7, none⟩ = some (.slice B6 B7 B8) := fun W e => e.cell (by simp [World.cell?, z0])
  have c0_8 : ∀ W, Ext wb W → W.cell? ⟨w.heap.size, 8, none⟩ = some (.bool C1) := fun W e => e.cell (by simp [World.cell?, z0])
  have c0_9 : ∀ W, Ext wb W → W.cell? ⟨w.heap.size, 9, none⟩ = some (.slice C2 C3 C4) := fun W e => e.cell (by simp [World.cell?, z0])
  have c0_10 : ∀ W, Ext wb W → W.cell? ⟨w.heap.size, 10, none⟩ = some (.bool C5) := fun W e => e.cell (by simp [World.cell?, z0])
  have c0_11 : ∀ W, Ext wb W → W.cell? ⟨w.heap.size, 11, none⟩ = some (.slice C6 C7 C8) := fun W e => e.cell (by simp [World.cell?, z0])
  have c0_12 : ∀ W, Ext wb W → W.cell? ⟨w.heap.size, 12, none⟩ = some (.bool D1) := fun W e => e.cell (by simp [World.cell?, z0])
  have c0_13 : ∀ W, Ext wb W → W.cell? ⟨w.heap.size, 13, none⟩ = some (.slice D2 D3 D4) := fun W e => e.cell (by simp [World.cell?, z0])
  have c0_14 : ∀ W, Ext wb W → W.cell? ⟨w.heap.size, 14, none⟩ = some (.bool D5) := fun W e => e.cell (by simp [World.cell?, z0])
  have c0_15 : ∀ W, Ext wb W → W.cell? ⟨w.heap.size, 15, none⟩ = some (.slice D6 D7 D8) := fun W e => e.cell (by simp [World.cell?, z0])
  have c1_0 : ∀ W, Ext wb W → W.cell? ⟨w.heap.size + 1, 0, none⟩ = some (.bool P1) := fun W e => e.cell (by simp [World.cell?, z1])
  have c1_1 : ∀ W, Ext wb W → W.cell? ⟨w.heap.size + 1, 1, none⟩ = some (.slice P2 P3 P4) := fun W e => e.cell (by simp [World.cell?, z1])
  have c1_2 : ∀ W, Ext wb W → W.cell? ⟨w.heap.size + 1, 2, none⟩ = some (.bool P5) := fun W e => e.cell (by simp [World.cell?, z1])
  have c1_3 : ∀ W, Ext wb W → W.cell? ⟨w.heap.size + 1, 3, none⟩ = some (.slice P6 P7 P8) := fun W e => e.cell (by simp [World.cell?, z1])
  have c1_4 : ∀ W, Ext wb W → W.cell? ⟨w.heap.size + 1, 4, none⟩ = some (.bool Q1) := fun W e => e.cell (by simp [World.cell?, z1])
  have c1_5 : ∀ W, Ext wb W → W.cell? ⟨w.heap.size + 1, 5, none⟩ = some (.slice Q2 Q3 Q4) := fun W e => e.cell (by simp [World.cell?, z1])
  have c1_6 : ∀ W, Ext wb W → W.cell? ⟨w.heap.size + 1, 6, none⟩ = some (.bool Q5) := fun W e => e.cell (by simp [World.cell?, z1])
  have c1_7 : ∀ W, Ext wb W → W.cell? ⟨w.heap.size + 1, 7, none⟩ = some (.slice Q6 Q7 Q8) := fun W e => e.cell (by simp [World.cell?, z1])
  have c1_8 : ∀ W, Ext wb W → W.cell? ⟨w.heap.size + 1, 8, none⟩ = some (.bool S1) := fun W e => e.cell (by simp [World.cell?, z1])
  have c1_9 : ∀ W, Ext wb W → W.cell? ⟨w.heap.size + 1, 9, none⟩ = some (.slice S2 S3 S4) := fun W e => e.cell (by simp [World.cell?, z1])
  have c1_10 : ∀ W, Ext wb W → W.cell? ⟨w.heap.size + 1, 10, none⟩ = some (.bool S5) := fun W e => e.cell (by simp [World.cell?, z1])
  have c1_11 : ∀ W, Ext wb W → W.cell? ⟨w.heap.size + 1, 11, none⟩ = some (.slice S6 S7 S8) := fun W e => e.cell (by simp [World.cell?, z1])
  have c1_12 : ∀ W, Ext wb W → W.cell? ⟨w.heap.size + 1, 12, none⟩ = some (.bool T1) := fun W e => e.cell (by simp [World.cell?, z1])
  have c1_13 : ∀ W, Ext wb W → W.cell? ⟨w.heap.size + 1, 13, none⟩ = some (.slice T2 T3 T4) := fun W e => e.cell (by simp [World.cell?, z1])
  have c1_14 : ∀ W, Ext wb W → W.cell? ⟨w.heap.size + 1, 14, none⟩ = some (.bool T5) := fun W e => e.cell (by simp [World.cell?, z1])
  have c1_15 : ∀ W, Ext wb W → W.cell? ⟨w.heap.size + 1, 15, none⟩ = some (.slice T6 T7 T8) := fun W e => e.cell (by simp [World.cell?, z1])
  rw [← hwb]
  clear hwb z0 z1
  replace hB := mkHid hB
  replace hE := mkHid hE
  have hst : StableAll Ext [.val (.pointer (some ⟨w.heap.size, 0, none⟩)), .val (.agg #[.bool A1, .slice A2 A3 A4, .bool A5, .slice A6 A7 A8]), .val (.pointer (some ⟨w.heap.size + 1, 0, none⟩)), .val (.agg #[.bool P1, .slice P2 P3 P4, .bool P5, .slice P6 P7 P8]), .val (.pointer (some ⟨w.heap.size, 4, none⟩)), .val (.agg #[.bool B1, .slice B2 B3 B4, .bool B5, .slice B6 B7 B8]), .val (.pointer (some ⟨w.heap.size + 1, 8, none⟩)), .val (.agg #[.bool S1, .slice S2 S3 S4, .bool S5, .slice S6 S7 S8]), .pred (fun W v => FracR W v (a * p + b * r)), .val (.pointer (some ⟨w.heap.size, 0, none⟩)), .val (.agg #[.bool A1, .slice A2 A3 A4, .bool A5, .slice A6 A7 A8]), .val (.pointer (some ⟨w.heap.size + 1, 4, none⟩)), .val (.agg #[.bool Q1, .slice Q2 Q3 Q4, .bool Q5, .slice Q6 Q7 Q8]), .val (.pointer (some ⟨w.heap.size, 4, none⟩)), .val (.agg #[.bool B1, .slice B2 B3 B4, .bool B5, .slice B6 B7 B8]), .val (.pointer (some ⟨w.heap.size + 1, 12, none⟩)), .val (.agg #[.bool T1, .slice T2 T3 T4, .bool T5, .slice T6 T7 T8]), .pred (fun W v => FracR W v (a * q + b * s)), .val (.pointer (some ⟨w.heap.size, 8, none⟩)), .val (.agg #[.bool C1, .slice C2 C3 C4, .bool C5, .slice C6 C7 C8]), .val (.pointer (some ⟨w.heap.size + 1, 0, none⟩)), .val (.agg #[.bool P1, .slice P2 P3 P4, .bool P5, .slice P6 P7 P8]), .val (.pointer (some ⟨w.heap.size, 12, none⟩)), .val (.agg #[.bool D1, .slice D2 D3 D4, .bool D5, .slice D6 D7 D8]), .val (.pointer (some ⟨w.heap.size + 1, 8, none⟩)), .val (.agg #[.bool S1, .slice S2 S3 S4, .bool S5, .slice S6 S7 S8]), .pred (fun W v => FracR W v (c * p + d * r)), .val (.pointer (some ⟨w.heap.size, 8, none⟩)), .val (.agg #[.bool C1, .slice C2 C3 C4, .bool C5, .slice C6 C7 C8]), .val (.pointer (some ⟨w.heap.size + 1, 4, none⟩)), .val (.agg #[.bool Q1, .slice Q2 Q3 Q4, .bool Q5, .slice Q6 Q7 Q8]), .val (.pointer (some ⟨w.heap.size, 12, none⟩)), .val (.agg #[.bool D1, .slice D2 D3 D4, .bool D5, .slice D6 D7 D8]), .val (.pointer (some ⟨w.heap.size + 1, 12, none⟩)), .val (.agg #[.bool T1, .slice T2 T3 T4, .bool T5, .slice T6 T7 T8]), .pred (fun W v => FracR W v (c * q + d * s))] := by
    refine stable_vals _ ?_
    refine stable_vals _ ?_
    refine stable_vals _ ?_
    refine stable_vals _ ?_
    refine stable_vals _ ?_
    refine stable_vals _ ?_
    refine stable_vals _ ?_
    refine stable_vals _ ?_
    refine st_fracR _ ?_
    refine stable_vals _ ?_
    refine stable_vals _ ?_
    refine stable_vals _ ?_
    refine stable_vals _ ?_
    refine stable_vals _ ?_
    refine stable_vals _ ?_
    refine stable_vals _ ?_
    refine stable_vals _ ?_
    refine st_fracR _ ?_
    refine stable_vals _ ?_
    refine stable_vals _ ?_
    refine stable_vals _ ?_
    refine stable_vals _ ?_
    refine stable_vals _ ?_
    refine stable_vals _ ?_
    refine stable_vals _ ?_
    refine stable_vals _ ?_
    refine st_fracR _ ?_
    refine stable_vals _ ?_
    refine stable_vals _ ?_
    refine stable_vals _ ?_
    refine stable_vals _ ?_
    refine stable_vals _ ?_
    refine stable_vals _ ?_
    refine stable_vals _ ?_
    refine stable_vals _ ?_
    refine st_fracR _ ?_
    trivial
  apply region_ext _ (by kernel_rfl) hst
  clear hst
  iterate 8 (refine ⟨fun W hW _ => by go_simp; exact Ext.refl _, ?_⟩)
  refine ⟨fun W hW _ => ?q0, fun x0 => ?_⟩
  case q0 =>
    go_simp
    refine (K0.out W (hE.out.trans hW)).mono ?_
    rintro e w' ⟨v, rfl, h1, h2⟩
    exact ⟨v, rfl, h2, h1⟩
  iterate 8 (refine ⟨fun W hW _ => by go_simp; exact Ext.refl _, ?_⟩)
  refine ⟨fun W hW _ => ?q1, fun x1 => ?_⟩
  case q1 =>
    go_simp
    refine (K1.out W (hE.out.trans hW)).mono ?_
    rintro e w' ⟨v, rfl, h1, h2⟩
    exact ⟨v, rfl, h2, h1⟩
  iterate 8 (refine ⟨fun W hW _ => by go_simp; exact Ext.refl _, ?_⟩)
  refine ⟨fun W hW _ => ?q2, fun x2 => ?_⟩
  case q2 =>
    go_simp
    refine (K2.out W (hE.out.trans hW)).mono ?_
    rintro e w' ⟨v, rfl, h1, h2⟩
    exact ⟨v, rfl, h2, h1⟩
  iterate 8 (refine ⟨fun W hW _ => by go_simp; exact Ext.refl _, ?_⟩)
  refine ⟨fun W hW _ => ?q3, fun x3 => fun W hW hF => ?fin⟩
  case q3 =>
    go_simp
    refine (K3.out W (hE.out.trans hW)).mono ?_
    rintro e w' ⟨v, rfl, h1, h2⟩
    exact ⟨v, rfl, h2, h1⟩
  case fin =>
    have d0 : FracR W x0 (a * p + b * r) := hF.2.2.2.1 rfl
    have d1 : FracR W x1 (a * q + b * s) := hF.2.2.1 rfl
    have d2 : FracR W x2 (c * p + d * r) := hF.2.1 rfl
    have d3 : FracR W x3 (c * q + d * s) := hF.1 rfl
    obtain ⟨E1, E2, E3, E4, E5, E6, E7, E8, rfl⟩ := d0.shape
    obtain ⟨F1, F2, F3, F4, F5, F6, F7, F8, rfl⟩ := d1.shape
    obtain ⟨G1, G2, G3, G4, G5, G6, G7, G8, rfl⟩ := d2.shape
    obtain ⟨H1, H2, H3, H4, H5, H6, H7, H8, rfl⟩ := d3.shape
    have hBW := hW.blk hB.out
    have R : MatR W (.agg #[.bool E1, .slice E2 E3 E4, .bool E5, .slice E6 E7 E8, .bool F1, .slice F2 F3 F4, .bool F5, .slice F6 F7 F8, .bool G1, .slice G2 G3 G4, .bool G5, .slice G6 G7 G8, .bool H1, .slice H2 H3 H4, .bool H5, .slice H6 H7 H8]) (a * p + b * r) (a * q + b * s) (c * p + d * r) (c * q + d * s) := ⟨E1, E2, E3, E4, E5, E6, E7, E8, F1, F2, F3, F4, F5, F6, F7, F8, G1, G2, G3, G4, G5, G6, G7, G8, H1, H2, H3, H4, H5, H6, H7, H8, rfl, d0, d1, d2, d3⟩
    have FR := mkHid (R.flat hBW (by simp [flatV]) #[.bool E1, .slice E2 E3 E4, .bool E5, .slice E6 E7 E8, .bool F1, .slice F2 F3 F4, .bool F5, .slice F6 F7 F8, .bool G1, .slice G2 G3 G4, .bool G5, .slice G6 G7 G8, .bool H1, .slice H2 H3 H4, .bool H5, .slice H6 H7 H8])
    have FE := mkHid ((hE.out.trans hW).row (show w.heap.size ≤ w.heap.size + 2 by omega) #[.bool E1, .slice E2 E3 E4, .bool E5, .slice E6 E7 E8, .bool F1, .slice F2 F3 F4, .bool F5, .slice F6 F7 F8, .bool G1, .slice G2 G3 G4, .bool G5, .slice G6 G7 G8, .bool H1, .slice H2 H3 H4, .bool H5, .slice H6 H7 H8])
    clear hF R d0 d1 d2 d3 hW c0_0 c0_1 c0_2 c0_3 c0_4 c0_5 c0_6 c0_7 c0_8 c0_9 c0_10 c0_11 c0_12 c0_13 c0_14 c0_15 c1_0 c1_1 c1_2 c1_3 c1_4 c1_5 c1_6 c1_7 c1_8 c1_9 c1_10 c1_11 c1_12 c1_13 c1_14 c1_15
    go_simp
    go_wp2_with (refine wpList_store_row rfl 28 (.tmp 4) (.tmp 41) rfl (w.heap.size + 2) #[.bool E1, .slice E2 E3 E4, .bool E5, .slice E6 E7 E8, .bool F1, .slice F2 F3 F4, .bool F5, .slice F6 F7 F8, .bool G1, .slice G2 G3 G4, .bool G5, .slice G6 G7 G8, .bool H1, .slice H2 H3 H4, .bool H5, .slice H6 H7 H8] rfl rfl 28 _ hBW (by kernel_rfl) rfl (by kernel_rfl) ?_)
    exact bodyPost_ret (results_cell_row rfl _ _ (w.heap.size + 2) 28 #[.bool E1, .slice E2 E3 E4, .bool E5, .slice E6 E7 E8, .bool F1, .slice F2 F3 F4, .bool F5, .slice F6 F7 F8, .bool G1, .slice G2 G3 G4, .bool G5, .slice G6 G7 G8, .bool H1, .slice H2 H3 H4, .bool H5, .slice H6 H7 H8] (0, 0) _ rfl (setRow_heap _ _ _ _ _ _ hBW) Tryz.underlying28 rfl (by kernel_rfl)) rfl ⟨_, rfl, FR.out, FE.out⟩

set_option maxRecDepth 100000 in
set_option maxHeartbeats 6400000 in
theorem rgone_f (v1 v2 : Value) (a b c d y u : Rat) (w : World) (hb_a : nf a ≤ 4194304) (hb_b : nf b ≤ 4194304) (hb_c : nf c ≤ 4194304) (hb_d : nf d ≤ 4194304) (hb_y : nf y ≤ 4194304) (hb_u : nf u ≤ 4194304) (h1 : MatR w v1 a b c d) (h2 : RayR w v2 y u) :
    Calls Tryz.prog 29 #[v1, v2] w fun e w' => ∃ v, e = .returned v ∧ RayR w' v (a * y + b * u) (c * y + d * u) ∧ Ext w w' := by
  obtain ⟨A1, A2, A3, A4, A5, A6, A7, A8, B1, B2, B3, B4, B5, B6, B7, B8, C1, C2, C3, C4, C5, C6, C7, C8, D1, D2, D3, D4, D5, D6, D7, D8, rfl, fA, fB, fC, fD⟩ := h1
  obtain ⟨P1, P2, P3, P4, P5, P6, P7, P8, Q1, Q2, Q3, Q4, Q5, Q6, Q7, Q8, rfl, fP, fQ⟩ := h2
  have K0 := mkHid (fun W (e : Ext w W) => rpair_f _ _ _ _ a y b u W (Nat.le_trans hb_a (by decide)) (Nat.le_trans hb_y (by decide)) (Nat.le_trans hb_b (by decide)) (Nat.le_trans hb_u (by decide)) (fA.ext e) (fP.ext e) (fB.ext e) (fQ.ext e))
  have K1 := mkHid (fun W (e : Ext w W) => rpair_f _ _ _ _ c y d u W (Nat.le_trans hb_c (by decide)) (Nat.le_trans hb_y (by decide)) (Nat.le_trans hb_d (by decide)) (Nat.le_trans hb_u (by decide)) (fC.ext e) (fP.ext e) (fD.ext e) (fQ.ext e))
  clear fA fB fC fD fP fQ hb_a hb_b hb_c hb_d hb_y hb_u
  go_enter Tryz.func29, Tryz.ntmps29
  go_wp2_with fail
  obtain ⟨wb, hwb⟩ : ∃ wb, wb = ((w.alloc (.cells #[.bool A1, .slice A2 A3 A4, .bool A5, .slice A6 A7 A8, .bool B1, .slice B2 B3 B4, .bool B5, .slice B6 B7 B8, .bool C1, .slice C2 C3 C4, .bool C5, .slice C6 C7 C8, .bool D1, .slice D2 D3 D4, .bool D5, .slice D6 D7 D8] 28)).alloc (.cells #[.bool P1, .slice P2 P3 P4, .bool P5, .slice P6 P7 P8, .bool Q1, .slice Q2 Q3 Q4, .bool Q5, .slice Q6 Q7 Q8] 30)).alloc (.cells #[.bool false, .slice none 0 0, .bool false, .slice none 0 0, .bool false, .slice none 0 0, .bool false, .slice none 0 0] 30) := ⟨_, rfl⟩
  have hE : Ext w wb := by rw [hwb]; exact (((Ext.refl w).al _).al _).al _
  have z0 : wb.heap[w.heap.size]? = some (.cells #[.bool A1, .slice A2 A3 A4, .bool A5, .slice A6 A7 A8, .bool B1, .slice B2 B3 B4, .bool B5, .slice B6 B7 B8, .bool C1, .slice C2 C3 C4, .bool C5, .slice C6 C7 C8, .bool D1, .slice D2 D3 D4, .bool D5, .slice D6 D7 D8] 28) := by rw [hwb]; exact (heap_alloc_old _ _ (by simp; omega)).trans ((heap_alloc_old _ _ (by simp)).trans (heap_alloc_new _ _))
  have z1 : wb.heap[w.heap.size + 1]? = some (.cells #[.bool P1, .slice P2 P3 P4, .bool P5, .slice P6 P7 P8, .bool Q1, .slice Q2 Q3 Q4, .bool Q5, .slice Q6 Q7 Q8] 30) := by rw [hwb]; exact (heap_alloc_old _ _ (by simp)).trans (heap_at _ _ _ (by simp))
  have hB : wb.heap[w.heap.size + 2]? = some (.cells #[.bool false, .slice none 0 0, .bool false, .slice none 0 0, .bool false, .slice none 0 0, .bool false, .slice none 0 0] 30) := by rw [hwb]; exact heap_at _ _ _ (by simp)
  have c0_0 : ∀ W, Ext wb W → W.cell? ⟨w.heap.size, 0, none⟩ = some (.bool A1) := fun W e => e.cell (by simp [World.cell?, z0])
  have c0_1 : ∀ W, Ext wb W → W.cell? ⟨w.heap.size, 1, none⟩ = some (.slice A2 A3 A4) := fun W e => e.cell (by simp [World.cell?, z0])
  have c0_2 : ∀ W, Ext wb W → W.cell? ⟨w.heap.size, 2, none⟩ = some (.bool A5) := fun W e => e.cell (by simp [World.cell?, z0])
  have c0_3 : ∀ W, Ext wb W → W.cell? ⟨w.heap.size, 3, none⟩ = some (.slice A6 A7 A8) := fun W e => e.cell (by simp [World.cell?, z0])
  have c0_4 : ∀ W, Ext wb W → W.cell? ⟨w.heap.size, 4, none⟩ = some (.bool B1) := fun W e => e.cell (by simp [World.cell?, z0])
  have c0_5 : ∀ W, Ext wb W → W.cell? ⟨w.heap.size, 5, none⟩ = some (.slice B2 B3 B4) := fun W e => e.cell (by simp [World.cell?, z0])
  have c0_6 : ∀ W, Ext wb W → W.cell? ⟨w.heap.size, 6, none⟩ = some (.bool B5) := fun W e => e.cell (by simp [World.cell?, z0])
  have c0_7 : ∀ W, Ext wb W → W.cell? ⟨w.heap.size, 7, none⟩ = some (.slice B6 B7 B8) := fun W e => e.cell (by simp [World.cell?, z0])
  have c0_8 : ∀ W, Ext wb W → W.cell? ⟨w.heap.size, 8, none⟩ = some (.bool C1) := fun W e => e.cell (by simp [World.cell?, z0])
  have c0_9 : ∀ W, Ext wb W → W.cell? ⟨w.heap.size, 9, none⟩ = some (.slice C2 C3 C4) := fun W e => e.cell (by simp [World.cell?, z0])
  have c0_10 : ∀ W, Ext wb W → W.cell? ⟨w.heap.size, 10, none⟩ = some (.bool C5) := fun W e => e.cell (by simp [World.cell?, z0])
  have c0_11 : ∀ W, Ext wb W → W.cell? ⟨w.heap.size, 11, none⟩ = some (.slice C6 C7 C8) := fun W e => e.cell (by simp [World.cell?, z0])
  have c0_12 : ∀ W, Ext wb W → W.cell? ⟨w.heap.size, 12, none⟩ = some (.bool D1) := fun W e => e.cell (by simp [World.cell?, z0])
  have c0_13 : ∀ W, Ext wb W → W.cell? ⟨w.heap.size, 13, none⟩ = some (.slice D2 D3 D4) := fun W e => e.cell (by simp [World.cell?, z0])
  have c0_14 : ∀ W, Ext wb W → W.cell? ⟨w.heap.size, 14, none⟩ = some (.bool D5) := fun W e => e.cell (by simp [World.cell?, z0])
  have c0_15 : ∀ W, Ext wb W → W.cell? ⟨w.heap.size, 15, none⟩ = some (.slice D6 D7 D8) := fun W e => e.cell (by simp [World.cell?, z0])
  have c1_0 : ∀ W, Ext wb W → W.cell? ⟨w.heap.size + 1, 0, none⟩ = some (.bool P1) := fun W e => e.cell (by simp [World.cell?, z1])
  have c1_1 : ∀ W, Ext wb W → W.cell? ⟨w.heap.size + 1, 1, none⟩ = some (.slice P2 P3 P4) := fun W e => e.cell (by simp [World.cell?, z1])
  have c1_2 : ∀ W, Ext wb W → W.cell? ⟨w.heap.size + 1, 2, none⟩ = some (.bool P5) := fun W e => e.cell (by simp [World.cell?, z1])
  have c1_3 : ∀ W, Ext wb W → W.cell? ⟨w.heap.size + 1, 3, none⟩ = some (.slice P6 P7 P8) := fun W e => e.cell (by simp [World.cell?, z1])
  have c1_4 : ∀ W, Ext wb W → W.cell? ⟨w.heap.size + 1, 4, none⟩ = some (.bool Q1) := fun W e => e.cell (by simp [World.cell?, z1])
  have c1_5 : ∀ W, Ext wb W → W.cell? ⟨w.heap.size + 1, 5, none⟩ = some (.slice Q2 Q3 Q4) := fun W e => e.cell (by simp [World.cell?, z1])
  have c1_6 : ∀ W, Ext wb W → W.cell? ⟨w.heap.size + 1, 6, none⟩ = some (.bool Q5) := fun W e => e.cell (by simp [World.cell?, z1])
  have c1_7 : ∀ W, Ext wb W → W.cell? ⟨w.heap.size + 1, 7, none⟩ = some (.slice Q6 Q7 Q8) := fun W e => e.cell (by simp [World.cell?, z1])
  rw [← hwb]
  clear hwb z0 z1
  replace hB := mkHid hB
  replace hE := mkHid hE
  have hst : StableAll Ext [.val (.pointer (some ⟨w.heap.size, 0, none⟩)), .val (.agg #[.bool A1, .slice A2 A3 A4, .bool A5, .slice A6 A7 A8]), .val (.pointer (some ⟨w.heap.size + 1, 0, none⟩)), .val (.agg #[.bool P1, .slice P2 P3 P4, .bool P5, .slice P6 P7 P8]), .val (.pointer (some ⟨w.heap.size, 4, none⟩)), .val (.agg #[.bool B1, .slice B2 B3 B4, .bool B5, .slice B6 B7 B8]), .val (.pointer (some ⟨w.heap.size + 1, 4, none⟩)), .val (.agg #[.bool Q1, .slice Q2 Q3 Q4, .bool Q5, .slice Q6 Q7 Q8]), .pred (fun W v => FracR W v (a * y + b * u)), .val (.pointer (some ⟨w.heap.size, 8, none⟩)), .val (.agg #[.bool C1, .slice C2 C3 C4, .bool C5, .slice C6 C7 C8]), .val (.pointer (some ⟨w.heap.size + 1, 0, none⟩)), .val (.agg #[.bool P1, .slice P2 P3 P4, .bool P5, .slice P6 P7 P8]), .val (.pointer (some ⟨w.heap.size, 12, none⟩)), .val (.agg #[.bool D1, .slice D2 D3 D4, .bool D5, .slice D6 D7 D8]), .val (.pointer (some ⟨w.heap.size + 1, 4, none⟩)), .val (.agg #[.bool Q1, .slice Q2 Q3 Q4, .bool Q5, .slice Q6 Q7 Q8]), .pred (fun W v => FracR W v (c * y + d * u))] := by
    refine stable_vals _ ?_
    refine stable_vals _ ?_
    refine stable_vals _ ?_
    refine stable_vals _ ?_
    refine stable_vals _ ?_
    refine stable_vals _ ?_
    refine stable_vals _ ?_
    refine stable_vals _ ?_
    refine st_fracR _ ?_
    refine stable_vals _ ?_
    refine stable_vals _ ?_
    refine stable_vals _ ?_
    refine stable_vals _ ?_
    refine stable_vals _ ?_
    refine stable_vals _ ?_
    refine stable_vals _ ?_
    refine stable_vals _ ?_
    refine st_fracR _ ?_
    trivial
  apply region_ext _ (by kernel_rfl) hst
  clear hst
  iterate 8 (refine ⟨fun W hW _ => by go_simp; exact Ext.refl _, ?_⟩)
  refine ⟨fun W hW _ => ?q0, fun x0 => ?_⟩
  case q0 =>
    go_simp
    refine (K0.out W (hE.out.trans hW)).mono ?_
    rintro e w' ⟨v, rfl, h1, h2⟩
    exact ⟨v, rfl, h2, h1⟩
  iterate 8 (refine ⟨fun W hW _ => by go_simp; exact Ext.refl _, ?_⟩)
  refine ⟨fun W hW _ => ?q1, fun x1 => fun W hW hF => ?fin⟩
  case q1 =>
    go_simp
    refine (K1.out W (hE.out.trans hW)).mono ?_
    rintro e w' ⟨v, rfl, h1, h2⟩
    exact ⟨v, rfl, h2, h1⟩
  case fin =>
    have d0 : FracR W x0 (a * y + b * u) := hF.2.1 rfl
    have d1 : FracR W x1 (c * y + d * u) := hF.1 rfl
    obtain ⟨E1, E2, E3, E4, E5, E6, E7, E8, rfl⟩ := d0.shape
    obtain ⟨F1, F2, F3, F4, F5, F6, F7, F8, rfl⟩ := d1.shape
    have hBW := hW.blk hB.out
    have R : RayR W (.agg #[.bool E1, .slice E2 E3 E4, .bool E5, .slice E6 E7 E8, .bool F1, .slice F2 F3 F4, .bool F5, .slice F6 F7 F8]) (a * y + b * u) (c * y + d * u) := ⟨E1, E2, E3, E4, E5, E6, E7, E8, F1, F2, F3, F4, F5, F6, F7, F8, rfl, d0, d1⟩
    have FR := mkHid (R.flat hBW (by simp [flatV]) #[.bool E1, .slice E2 E3 E4, .bool E5, .slice E6 E7 E8, .bool F1, .slice F2 F3 F4, .bool F5, .slice F6 F7 F8])
    have FE := mkHid ((hE.out.trans hW).row (show w.heap.size ≤ w.heap.size + 2 by omega) #[.bool E1, .slice E2 E3 E4, .bool E5, .slice E6 E7 E8, .bool F1, .slice F2 F3 F4, .bool F5, .slice F6 F7 F8])
    clear hF R d0 d1 hW c0_0 c0_1 c0_2 c0_3 c0_4 c0_5 c0_6 c0_7 c0_8 c0_9 c0_10 c0_11 c0_12 c0_13 c0_14 c0_15 c1_0 c1_1 c1_2 c1_3 c1_4 c1_5 c1_6 c1_7
    go_simp
    go_wp2_with (refine wpList_store_row rfl 30 (.tmp 4) (.tmp 23) rfl (w.heap.size + 2) #[.bool E1, .slice E2 E3 E4, .bool E5, .slice E6 E7 E8, .bool F1, .slice F2 F3 F4, .bool F5, .slice F6 F7 F8] rfl rfl 30 _ hBW (by kernel_rfl) rfl (by kernel_rfl) ?_)
    exact bodyPost_ret (results_cell_row rfl _ _ (w.heap.size + 2) 30 #[.bool E1, .slice E2 E3 E4, .bool E5, .slice E6 E7 E8, .bool F1, .slice F2 F3 F4, .bool F5, .slice F6 F7 F8] (0, 0) _ rfl (setRow_heap _ _ _ _ _ _ hBW) Tryz.underlying30 rfl (by kernel_rfl)) rfl ⟨_, rfl, FR.out, FE.out⟩
end Go.Proofs.YtpmfohhpaoagfaaGreat
namespace Go.Proofs.YtpmfohhpaoagfaaGreat
open Go Go.RowKit Go.Proofs
theorem nf_one : nf 1 ≤ 2048 := by unfold nf; rw [show (1 : Rat).num = 1 from rfl, show (((1 : Rat).den : Nat) : Int) = 1 from rfl]; unfold nl; rw [show (1 : Int).natAbs = 1 from rfl, lim_one (by omega) (by omega)]; decide
theorem nf_nought : nf 0 ≤ 2048 := by unfold nf; rw [show (0 : Rat).num = 0 from rfl, show (((0 : Rat).den : Nat) : Int) = 1 from rfl]; unfold nl; rw [show (1 : Int).natAbs = 1 from rfl, show (0 : Int).natAbs = 0 from rfl, lim_zero, lim_one (by omega) (by omega)]; decide

set_option maxRecDepth 100000 in
set_option maxHeartbeats 3200000 in
theorem rmone_f (w : World) : Calls Tryz.prog 49 #[] w fun e w' => ∃ v, e = .returned v ∧ MatR w' v 1 0 0 1 ∧ Ext w w' := by
  have k1 := mkHid (fun w => rone_f w)
  have k0 := mkHid (fun w => rnought_f w)
  go_enter Tryz.func49, Tryz.ntmps49
  go_wp2_with fail
  refine (k1.out _).mono ?_
  rintro e w1 ⟨v1, rfl, h1, hE1⟩
  have hB := mkHid (hE1.blk (heap_alloc_new _ _))
  have hE := mkHid (((Ext.refl w).al _).trans hE1)
  replace h1 := mkHid h1
  clear hE1
  go_wp2_with fail
  refine (k0.out _).mono ?_
  rintro e w2 ⟨v2, rfl, h2, hE2⟩
  replace hB := mkHid (hE2.blk hB.out)
  replace hE := mkHid (hE.out.trans hE2)
  replace h1 := mkHid (h1.out.ext hE2)
  replace h2 := mkHid h2
  clear hE2
  go_wp2_with fail
  refine (k0.out _).mono ?_
  rintro e w3 ⟨v3, rfl, h3, hE3⟩
  replace hB := mkHid (hE3.blk hB.out)
  replace hE := mkHid (hE.out.trans hE3)
  replace h1 := mkHid (h1.out.ext hE3)
  replace h2 := mkHid (h2.out.ext hE3)
  replace h3 := mkHid h3
  clear hE3
  go_wp2_with fail
  refine (k1.out _).mono ?_
  rintro e w4 ⟨v4, rfl, h4, hE4⟩
  replace hB := mkHid (hE4.blk hB.out)
  replace hE := mkHid (hE.out.trans hE4)
  replace h1 := mkHid (h1.out.ext hE4)
  replace h2 := mkHid (h2.out.ext hE4)
  replace h3 := mkHid (h3.out.ext hE4)
  replace h4 := mkHid h4
  clear hE4
  replace h1 := h1.out
  obtain ⟨P1, P2, P3, P4, P5, P6, P7, P8, rfl⟩ := h1.shape
  replace h2 := h2.out
  obtain ⟨Q1, Q2, Q3, Q4, Q5, Q6, Q7, Q8, rfl⟩ := h2.shape
  replace h3 := h3.out
  obtain ⟨S1, S2, S3, S4, S5, S6, S7, S8, rfl⟩ := h3.shape
  replace h4 := h4.out
  obtain ⟨T1, T2, T3, T4, T5, T6, T7, T8, rfl⟩ := h4.shape
  have R : MatR w4 (.agg #[.bool P1, .slice P2 P3 P4, .bool P5, .slice P6 P7 P8, .bool Q1, .slice Q2 Q3 Q4, .bool Q5, .slice Q6 Q7 Q8, .bool S1, .slice S2 S3 S4, .bool S5, .slice S6 S7 S8, .bool T1, .slice T2 T3 T4, .bool T5, .slice T6 T7 T8]) 1 0 0 1 := ⟨P1, P2, P3, P4, P5, P6, P7, P8, Q1, Q2, Q3, Q4, Q5, Q6, Q7, Q8, S1, S2, S3, S4, S5, S6, S7, S8, T1, T2, T3, T4, T5, T6, T7, T8, rfl, h1, h2, h3, h4⟩
  have hBW := hB.out
  have FR := mkHid (R.flat hBW (by simp [flatV]) #[.bool P1, .slice P2 P3 P4, .bool P5, .slice P6 P7 P8, .bool Q1, .slice Q2 Q3 Q4, .bool Q5, .slice Q6 Q7 Q8, .bool S1, .slice S2 S3 S4, .bool S5, .slice S6 S7 S8, .bool T1, .slice T2 T3 T4, .bool T5, .slice T6 T7 T8])
  have FE := mkHid (hE.out.row (Nat.le_refl _) #[.bool P1, .slice P2 P3 P4, .bool P5, .slice P6 P7 P8, .bool Q1, .slice Q2 Q3 Q4, .bool Q5, .slice Q6 Q7 Q8, .bool S1, .slice S2 S3 S4, .bool S5, .slice S6 S7 S8, .bool T1, .slice T2 T3 T4, .bool T5, .slice T6 T7 T8])
  clear R h1 h2 h3 h4 k0 k1
  go_wp2_with (refine wpList_store_row rfl 28 (.tmp 0) (.tmp 5) rfl w.heap.size #[.bool P1, .slice P2 P3 P4, .bool P5, .slice P6 P7 P8, .bool Q1, .slice Q2 Q3 Q4, .bool Q5, .slice Q6 Q7 Q8, .bool S1, .slice S2 S3 S4, .bool S5, .slice S6 S7 S8, .bool T1, .slice T2 T3 T4, .bool T5, .slice T6 T7 T8] rfl rfl 28 _ hBW (by kernel_rfl) rfl (by kernel_rfl) ?_)
  exact bodyPost_ret (results_cell_row rfl _ _ w.heap.size 28 #[.bool P1, .slice P2 P3 P4, .bool P5, .slice P6 P7 P8, .bool Q1, .slice Q2 Q3 Q4, .bool Q5, .slice Q6 Q7 Q8, .bool S1, .slice S2 S3 S4, .bool S5, .slice S6 S7 S8, .bool T1, .slice T2 T3 T4, .bool T5, .slice T6 T7 T8] (0, 0) _ rfl (setRow_heap _ _ _ _ _ _ hBW) Tryz.underlying28 rfl (by kernel_rfl)) rfl ⟨_, rfl, FR.out, FE.out⟩

set_option maxRecDepth 100000 in
set_option maxHeartbeats 3200000 in
theorem rmayray_f (v : Value) (oy ou : Option Rat) (w : World) (h : AnyY w v oy ou) :
    Calls Tryz.prog 28 #[v] w fun e w' => e = .returned (.bool ([oy, ou].all Option.isSome)) ∧ Ext w w' := by
  obtain ⟨Y1, Y2, Y3, Y4, Y5, Y6, Y7, Y8, U1, U2, U3, U4, U5, U6, U7, U8, rfl, h1, h2⟩ := h
  obtain ⟨wb, hwb⟩ : ∃ wb, wb = (w.alloc (.cells #[.bool Y1, .slice Y2 Y3 Y4, .bool Y5, .slice Y6 Y7 Y8, .bool U1, .slice U2 U3 U4, .bool U5, .slice U6 U7 U8] 30)).alloc (.cells #[.bool Y1, .slice Y2 Y3 Y4, .bool Y5, .slice Y6 Y7 Y8, .bool U1, .slice U2 U3 U4, .bool U5, .slice U6 U7 U8] 26) := ⟨_, rfl⟩
  have hE : Ext w wb := by rw [hwb]; exact ((Ext.refl w).al _).al _
  have z1 : wb.heap[w.heap.size + 1]? = some (.cells #[.bool Y1, .slice Y2 Y3 Y4, .bool Y5, .slice Y6 Y7 Y8, .bool U1, .slice U2 U3 U4, .bool U5, .slice U6 U7 U8] 26 (0, 0)) := by rw [hwb]; exact heap_at _ _ _ (by simp)
  have kc := mkHid (rchecks_f (w.heap.size + 1) 2 [oy, ou] wb (by simp) (lf_two z1 (h1.ext hE) (h2.ext hE)))
  rw [show [oy, ou].length = 2 from rfl] at kc
  obtain ⟨B, hB⟩ : ∃ B, B = [oy, ou].all Option.isSome := ⟨_, rfl⟩
  rw [← hB] at kc ⊢
  clear h1 h2 z1 hB
  replace hE := mkHid hE
  replace hwb := mkHid hwb
  go_enter Tryz.func28, Tryz.ntmps28
  go_wp2_with fail
  rw [← hwb.out]
  clear hwb
  refine kc.out.mono ?_
  rintro e w1 ⟨rfl, hE1⟩
  replace hE := mkHid (hE.out.trans hE1)
  clear hE1 kc
  go_wp2_with fail
  go_ret
  exact ⟨rfl, hE.out⟩

set_option maxRecDepth 100000 in
set_option maxHeartbeats 3200000 in
theorem rmay_f (v : Value) (oa ob oc od : Option Rat) (w : World) (h : AnyM w v oa ob oc od) :
    Calls Tryz.prog 20 #[v] w fun e w' => e = .returned (.bool (okM oa ob oc od)) ∧ Ext w w' := by
  obtain ⟨A1, A2, A3, A4, A5, A6, A7, A8, B1, B2, B3, B4, B5, B6, B7, B8, C1, C2, C3, C4, C5, C6, C7, C8, D1, D2, D3, D4, D5, D6, D7, D8, rfl, h1, h2, h3, h4⟩ := h
  obtain ⟨wb, hwb⟩ : ∃ wb, wb = (w.alloc (.cells #[.bool A1, .slice A2 A3 A4, .bool A5, .slice A6 A7 A8, .bool B1, .slice B2 B3 B4, .bool B5, .slice B6 B7 B8, .bool C1, .slice C2 C3 C4, .bool C5, .slice C6 C7 C8, .bool D1, .slice D2 D3 D4, .bool D5, .slice D6 D7 D8] 28)).alloc (.cells #[.bool A1, .slice A2 A3 A4, .bool A5, .slice A6 A7 A8, .bool B1, .slice B2 B3 B4, .bool B5, .slice B6 B7 B8, .bool C1, .slice C2 C3 C4, .bool C5, .slice C6 C7 C8, .bool D1, .slice D2 D3 D4, .bool D5, .slice D6 D7 D8] 26) := ⟨_, rfl⟩
  have hE : Ext w wb := by rw [hwb]; exact ((Ext.refl w).al _).al _
  have z0 : wb.heap[w.heap.size]? = some (.cells #[.bool A1, .slice A2 A3 A4, .bool A5, .slice A6 A7 A8, .bool B1, .slice B2 B3 B4, .bool B5, .slice B6 B7 B8, .bool C1, .slice C2 C3 C4, .bool C5, .slice C6 C7 C8, .bool D1, .slice D2 D3 D4, .bool D5, .slice D6 D7 D8] 28 (0, 0)) := by rw [hwb]; exact (heap_alloc_old _ _ (by simp)).trans (heap_alloc_new _ _)
  have z1 : wb.heap[w.heap.size + 1]? = some (.cells #[.bool A1, .slice A2 A3 A4, .bool A5, .slice A6 A7 A8, .bool B1, .slice B2 B3 B4, .bool B5, .slice B6 B7 B8, .bool C1, .slice C2 C3 C4, .bool C5, .slice C6 C7 C8, .bool D1, .slice D2 D3 D4, .bool D5, .slice D6 D7 D8] 26 (0, 0)) := by rw [hwb]; exact heap_at _ _ _ (by simp)
  replace h1 := h1.ext hE
  replace h2 := h2.ext hE
  replace h3 := h3.ext hE
  replace h4 := h4.ext hE
  have kc := mkHid (rchecks_f (w.heap.size + 1) 4 [oa, ob, oc, od] wb (by simp) (lf_four z1 h1 h2 h3 h4))
  replace h1 := mkHid h1
  replace h2 := mkHid h2
  replace h3 := mkHid h3
  replace h4 := mkHid h4
  replace z0 := mkHid z0
  replace hE := mkHid hE
  replace hwb := mkHid hwb
  clear z1
  rw [show [oa, ob, oc, od].length = 4 from rfl] at kc
  obtain ⟨B, hB⟩ : ∃ B, B = [oa, ob, oc, od].all Option.isSome := ⟨_, rfl⟩
  rw [← hB] at kc
  cases B with
  | false =>
    have e : okM oa ob oc od = false := okM_false hB.symm
    rw [e]
    clear e hB
    go_enter Tryz.func20, Tryz.ntmps20
    go_wp2_with fail
    rw [← hwb.out]
    clear hwb
    refine kc.out.mono ?_
    rintro e w1 ⟨rfl, hE1⟩
    replace hE := mkHid (hE.out.trans hE1)
    clear hE1 kc
    go_wp2_with fail
    go_ret
    exact ⟨rfl, hE.out⟩
  | true =>
    have hs := hB.symm
    simp only [List.all_cons, List.all_nil, Bool.and_true, Bool.and_eq_true] at hs
    obtain ⟨i1, i2, i3, i4⟩ := hs
    obtain ⟨a, rfl⟩ := Option.isSome_iff_exists.1 i1
    obtain ⟨b, rfl⟩ := Option.isSome_iff_exists.1 i2
    obtain ⟨c, rfl⟩ := Option.isSome_iff_exists.1 i3
    obtain ⟨d, rfl⟩ := Option.isSome_iff_exists.1 i4
    clear i1 i2 i3 i4 hB
    obtain ⟨f1, e1⟩ := h1.out.frac
    obtain ⟨f2, e2⟩ := h2.out.frac
    obtain ⟨f3, e3⟩ := h3.out.frac
    obtain ⟨f4, e4⟩ := h4.out.frac
    have kd := mkHid (fun W (e : Ext wb W) => rcross_f _ _ _ _ a b c d W (Nat.le_trans e1 (by decide)) (Nat.le_trans e2 (by decide)) (Nat.le_trans e3 (by decide)) (Nat.le_trans e4 (by decide)) (f1.ext e) (f2.ext e) (f3.ext e) (f4.ext e))
    have nd : nf (a * d - b * c) ≤ 67108864 := by
      have := nf_sub_le (a * d) (b * c)
      have := nf_mul_le a d
      have := nf_mul_le b c
      omega
    have ko := mkHid rone_f
    have kp := mkHid (fun v v' W h h' => rsame_f v v' (a * d - b * c) 1 W nd (Nat.le_trans nf_one (by decide)) h h')
    rw [show okM (some a) (some b) (some c) (some d) = decide (a * d - b * c = 1) from rfl]
    obtain ⟨S, hS⟩ : ∃ S, S = decide (a * d - b * c = 1) := ⟨_, rfl⟩
    rw [← hS] at kp ⊢
    clear f1 f2 f3 f4 e1 e2 e3 e4 h1 h2 h3 h4 nd hS
    generalize a * d - b * c = D at *
    go_enter Tryz.func20, Tryz.ntmps20
    go_wp2_with fail
    rw [← hwb.out]
    clear hwb
    refine kc.out.mono ?_
    rintro e w1 ⟨rfl, hE1⟩
    have y0 : w1.cell? ⟨w.heap.size, 0, none⟩ = some (.bool A1) := row16_cells (hE1.blk z0.out) 0
    have y1 : w1.cell? ⟨w.heap.size, 1, none⟩ = some (.slice A2 A3 A4) := row16_cells (hE1.blk z0.out) 1
    have y2 : w1.cell? ⟨w.heap.size, 2, none⟩ = some (.bool A5) := row16_cells (hE1.blk z0.out) 2
    have y3 : w1.cell? ⟨w.heap.size, 3, none⟩ = some (.slice A6 A7 A8) := row16_cells (hE1.blk z0.out) 3
    have y4 : w1.cell? ⟨w.heap.size, 4, none⟩ = some (.bool B1) := row16_cells (hE1.blk z0.out) 4
    have y5 : w1.cell? ⟨w.heap.size, 5, none⟩ = some (.slice B2 B3 B4) := row16_cells (hE1.blk z0.out) 5
    have y6 : w1.cell? ⟨w.heap.size, 6, none⟩ = some (.bool B5) := row16_cells (hE1.blk z0.out) 6
    have y7 : w1.cell? ⟨w.heap.size, 7, none⟩ = some (.slice B6 B7 B8) := row16_cells (hE1.blk z0.out) 7
    have y8 : w1.cell? ⟨w.heap.size, 8, none⟩ = some (.bool C1) := row16_cells (hE1.blk z0.out) 8
    have y9 : w1.cell? ⟨w.heap.size, 9, none⟩ = some (.slice C2 C3 C4) := row16_cells (hE1.blk z0.out) 9
    have y10 : w1.cell? ⟨w.heap.size, 10, none⟩ = some (.bool C5) := row16_cells (hE1.blk z0.out) 10
    have y11 : w1.cell? ⟨w.heap.size, 11, none⟩ = some (.slice C6 C7 C8) := row16_cells (hE1.blk z0.out) 11
    have y12 : w1.cell? ⟨w.heap.size, 12, none⟩ = some (.bool D1) := row16_cells (hE1.blk z0.out) 12
    have y13 : w1.cell? ⟨w.heap.size, 13, none⟩ = some (.slice D2 D3 D4) := row16_cells (hE1.blk z0.out) 13
    have y14 : w1.cell? ⟨w.heap.size, 14, none⟩ = some (.bool D5) := row16_cells (hE1.blk z0.out) 14
    have y15 : w1.cell? ⟨w.heap.size, 15, none⟩ = some (.slice D6 D7 D8) := row16_cells (hE1.blk z0.out) 15
    have hE1' := mkHid hE1
    replace hE := mkHid (hE.out.trans hE1)
    clear hE1 kc
    go_wp2_with fail
    refine (kd.out w1 hE1'.out).mono ?_
    rintro e w2 ⟨vd, rfl, hvd, hE2⟩
    replace hE := mkHid (hE.out.trans hE2)
    replace hvd := mkHid hvd
    clear hE2 kd y0 y1 y2 y3 y4 y5 y6 y7 y8 y9 y10 y11 y12 y13 y14 y15
    go_wp2_with fail
    refine (ko.out w2).mono ?_
    rintro e w3 ⟨vo, rfl, hvo, hE3⟩
    replace hE := mkHid (hE.out.trans hE3)
    replace hvd := mkHid (hvd.out.ext hE3)
    replace hvo := mkHid hvo
    clear hE3
    go_wp2_with fail
    refine (kp.out _ _ w3 hvd.out hvo.out).mono ?_
    rintro e w4 ⟨rfl, hE4⟩
    replace hE := mkHid (hE.out.trans hE4)
    clear hE4
    go_wp2_with fail
    go_ret
    exact ⟨rfl, hE.out⟩

set_option maxRecDepth 100000 in
set_option maxHeartbeats 12800000 in
theorem rlike_f (v1 v2 : Value) (a b c d p q r s : Rat) (w : World) (hb_a : nf a ≤ 67108864) (hb_b : nf b ≤ 67108864) (hb_c : nf c ≤ 67108864) (hb_d : nf d ≤ 67108864) (hb_p : nf p ≤ 67108864) (hb_q : nf q ≤ 67108864) (hb_r : nf r ≤ 67108864) (hb_s : nf s ≤ 67108864) (h1 : MatR w v1 a b c d) (h2 : MatR w v2 p q r s) :
    Calls Tryz.prog 50 #[v1, v2] w fun e w' => e = .returned (.bool (decide (a = p ∧ b = q ∧ c = r ∧ d = s))) ∧ Ext w w' := by
  obtain ⟨A1, A2, A3, A4, A5, A6, A7, A8, B1, B2, B3, B4, B5, B6, B7, B8, C1, C2, C3, C4, C5, C6, C7, C8, D1, D2, D3, D4, D5, D6, D7, D8, rfl, fA, fB, fC, fD⟩ := h1
  obtain ⟨P1, P2, P3, P4, P5, P6, P7, P8, Q1, Q2, Q3, Q4, Q5, Q6, Q7, Q8, S1, S2, S3, S4, S5, S6, S7, S8, T1, T2, T3, T4, T5, T6, T7, T8, rfl, fP, fQ, fS, fT⟩ := h2
  have K0 := mkHid (fun W (e : Ext w W) => rsame_f _ _ a p W hb_a hb_p (fA.ext e) (fP.ext e))
  have K1 := mkHid (fun W (e : Ext w W) => rsame_f _ _ b q W hb_b hb_q (fB.ext e) (fQ.ext e))
  have K2 := mkHid (fun W (e : Ext w W) => rsame_f _ _ c r W hb_c hb_r (fC.ext e) (fS.ext e))
  have K3 := mkHid (fun W (e : Ext w W) => rsame_f _ _ d s W hb_d hb_s (fD.ext e) (fT.ext e))
  obtain ⟨R, hR⟩ : ∃ R, R = decide (a = p ∧ b = q ∧ c = r ∧ d = s) := ⟨_, rfl⟩
  rw [← hR]
  obtain ⟨B10, hB0⟩ : ∃ B, B = decide (a = p) := ⟨_, rfl⟩
  rw [← hB0] at K0
  obtain ⟨B11, hB1⟩ : ∃ B, B = decide (b = q) := ⟨_, rfl⟩
  rw [← hB1] at K1
  obtain ⟨B12, hB2⟩ : ∃ B, B = decide (c = r) := ⟨_, rfl⟩
  rw [← hB2] at K2
  obtain ⟨B13, hB3⟩ : ∃ B, B = decide (d = s) := ⟨_, rfl⟩
  rw [← hB3] at K3
  have hRB : R = (B10 && (B11 && (B12 && B13))) := by rw [hR, hB0, hB1, hB2, hB3]; simp only [Bool.decide_and]
  clear hR hB0 hB1 hB2 hB3 hb_a hb_b hb_c hb_d hb_p hb_q hb_r hb_s fA fB fC fD fP fQ fS fT
  obtain ⟨wb, hwb⟩ : ∃ wb, wb = (w.alloc (.cells #[.bool A1, .slice A2 A3 A4, .bool A5, .slice A6 A7 A8, .bool B1, .slice B2 B3 B4, .bool B5, .slice B6 B7 B8, .bool C1, .slice C2 C3 C4, .bool C5, .slice C6 C7 C8, .bool D1, .slice D2 D3 D4, .bool D5, .slice D6 D7 D8] 28)).alloc (.cells #[.bool P1, .slice P2 P3 P4, .bool P5, .slice P6 P7 P8, .bool Q1, .slice Q2 Q3 Q4, .bool Q5, .slice Q6 Q7 Q8, .bool S1, .slice S2 S3 S4, .bool S5, .slice S6 S7 S8, .bool T1, .slice T2 T3 T4, .bool T5, .slice T6 T7 T8] 28) := ⟨_, rfl⟩
  have hE : Ext w wb := by rw [hwb]; exact ((Ext.refl w).al _).al _
  have z0 : wb.heap[w.heap.size]? = some (.cells #[.bool A1, .slice A2 A3 A4, .bool A5, .slice A6 A7 A8, .bool B1, .slice B2 B3 B4, .bool B5, .slice B6 B7 B8, .bool C1, .slice C2 C3 C4, .bool C5, .slice C6 C7 C8, .bool D1, .slice D2 D3 D4, .bool D5, .slice D6 D7 D8] 28 (0, 0)) := by rw [hwb]; exact (heap_alloc_old _ _ (by simp)).trans (heap_alloc_new _ _)
  have z1 : wb.heap[w.heap.size + 1]? = some (.cells #[.bool P1, .slice P2 P3 P4, .bool P5, .slice P6 P7 P8, .bool Q1, .slice Q2 Q3 Q4, .bool Q5, .slice Q6 Q7 Q8, .bool S1, .slice S2 S3 S4, .bool S5, .slice S6 S7 S8, .bool T1, .slice T2 T3 T4, .bool T5, .slice T6 T7 T8] 28 (0, 0)) := by rw [hwb]; exact heap_at _ _ _ (by simp)
  replace hwb := mkHid hwb
  replace z0 := mkHid z0
  replace z1 := mkHid z1
  replace hE := mkHid hE
  cases B10 with
  | false =>
    have hRF : R = false := by rw [hRB]; simp
    subst hRF
    clear hRB
    go_enter Tryz.func50, Tryz.ntmps50
    go_wp2_with fail
    rw [← hwb.out]
    clear hwb
    refine (K0.out _ hE.out).mono ?_
    rintro e w1 ⟨rfl, hE1⟩
    replace z0 := mkHid (hE1.blk z0.out)
    replace z1 := mkHid (hE1.blk z1.out)
    replace hE := mkHid (hE.out.trans hE1)
    clear hE1
    go_wp2_with fail
    go_ret
    exact ⟨rfl, hE.out⟩
  | true =>
    cases B11 with
    | false =>
      have hRF : R = false := by rw [hRB]; simp
      subst hRF
      clear hRB
      go_enter Tryz.func50, Tryz.ntmps50
      go_wp2_with fail
      rw [← hwb.out]
      clear hwb
      refine (K0.out _ hE.out).mono ?_
      rintro e w1 ⟨rfl, hE1⟩
      replace z0 := mkHid (hE1.blk z0.out)
      replace z1 := mkHid (hE1.blk z1.out)
      replace hE := mkHid (hE.out.trans hE1)
      clear hE1
      have y0 : w1.cell? ⟨w.heap.size, 4, none⟩ = some (.bool B1) := row16_cells z0.out 4
      have x0 : w1.cell? ⟨w.heap.size + 1, 4, none⟩ = some (.bool Q1) := row16_cells z1.out 4
      have y1 : w1.cell? ⟨w.heap.size, 5, none⟩ = some (.slice B2 B3 B4) := row16_cells z0.out 5
      have x1 : w1.cell? ⟨w.heap.size + 1, 5, none⟩ = some (.slice Q2 Q3 Q4) := row16_cells z1.out 5
      have y2 : w1.cell? ⟨w.heap.size, 6, none⟩ = some (.bool B5) := row16_cells z0.out 6
      have x2 : w1.cell? ⟨w.heap.size + 1, 6, none⟩ = some (.bool Q5) := row16_cells z1.out 6
      have y3 : w1.cell? ⟨w.heap.size, 7, none⟩ = some (.slice B6 B7 B8) := row16_cells z0.out 7
      have x3 : w1.cell? ⟨w.heap.size + 1, 7, none⟩ = some (.slice Q6 Q7 Q8) := row16_cells z1.out 7
      go_wp2_with fail
      clear x0 y0 x1 y1 x2 y2 x3 y3
      refine (K1.out _ hE.out).mono ?_
      rintro e w2 ⟨rfl, hE2⟩
      replace z0 := mkHid (hE2.blk z0.out)
      replace z1 := mkHid (hE2.blk z1.out)
      replace hE := mkHid (hE.out.trans hE2)
      clear hE2
      go_wp2_with fail
      go_ret
      exact ⟨rfl, hE.out⟩
    | true =>
      cases B12 with
      | false =>
        have hRF : R = false := by rw [hRB]; simp
        subst hRF
        clear hRB
        go_enter Tryz.func50, Tryz.ntmps50
        go_wp2_with fail
        rw [← hwb.out]
        clear hwb
        refine (K0.out _ hE.out).mono ?_
        rintro e w1 ⟨rfl, hE1⟩
        replace z0 := mkHid (hE1.blk z0.out)
        replace z1 := mkHid (hE1.blk z1.out)
        replace hE := mkHid (hE.out.trans hE1)
        clear hE1
        have y0 : w1.cell? ⟨w.heap.size, 4, none⟩ = some (.bool B1) := row16_cells z0.out 4
        have x0 : w1.cell? ⟨w.heap.size + 1, 4, none⟩ = some (.bool Q1) := row16_cells z1.out 4
        have y1 : w1.cell? ⟨w.heap.size, 5, none⟩ = some (.slice B2 B3 B4) := row16_cells z0.out 5
        have x1 : w1.cell? ⟨w.heap.size + 1, 5, none⟩ = some (.slice Q2 Q3 Q4) := row16_cells z1.out 5
        have y2 : w1.cell? ⟨w.heap.size, 6, none⟩ = some (.bool B5) := row16_cells z0.out 6
        have x2 : w1.cell? ⟨w.heap.size + 1, 6, none⟩ = some (.bool Q5) := row16_cells z1.out 6
        have y3 : w1.cell? ⟨w.heap.size, 7, none⟩ = some (.slice B6 B7 B8) := row16_cells z0.out 7
        have x3 : w1.cell? ⟨w.heap.size + 1, 7, none⟩ = some (.slice Q6 Q7 Q8) := row16_cells z1.out 7
        go_wp2_with fail
        clear x0 y0 x1 y1 x2 y2 x3 y3
        refine (K1.out _ hE.out).mono ?_
        rintro e w2 ⟨rfl, hE2⟩
        replace z0 := mkHid (hE2.blk z0.out)
        replace z1 := mkHid (hE2.blk z1.out)
        replace hE := mkHid (hE.out.trans hE2)
        clear hE2
        have y0 : w2.cell? ⟨w.heap.size, 8, none⟩ = some (.bool C1) := row16_cells z0.out 8
        have x0 : w2.cell? ⟨w.heap.size + 1, 8, none⟩ = some (.bool S1) := row16_cells z1.out 8
        have y1 : w2.cell? ⟨w.heap.size, 9, none⟩ = some (.slice C2 C3 C4) := row16_cells z0.out 9
        have x1 : w2.cell? ⟨w.heap.size + 1, 9, none⟩ = some (.slice S2 S3 S4) := row16_cells z1.out 9
        have y2 : w2.cell? ⟨w.heap.size, 10, none⟩ = some (.bool C5) := row16_cells z0.out 10
        have x2 : w2.cell? ⟨w.heap.size + 1, 10, none⟩ = some (.bool S5) := row16_cells z1.out 10
        have y3 : w2.cell? ⟨w.heap.size, 11, none⟩ = some (.slice C6 C7 C8) := row16_cells z0.out 11
        have x3 : w2.cell? ⟨w.heap.size + 1, 11, none⟩ = some (.slice S6 S7 S8) := row16_cells z1.out 11
        go_wp2_with fail
        clear x0 y0 x1 y1 x2 y2 x3 y3
        refine (K2.out _ hE.out).mono ?_
        rintro e w3 ⟨rfl, hE3⟩
        replace z0 := mkHid (hE3.blk z0.out)
        replace z1 := mkHid (hE3.blk z1.out)
        replace hE := mkHid (hE.out.trans hE3)
        clear hE3
        go_wp2_with fail
        go_ret
        exact ⟨rfl, hE.out⟩
      | true =>
        have hRF : R = B13 := by rw [hRB]; simp
        subst hRF
        clear hRB
        go_enter Tryz.func50, Tryz.ntmps50
        go_wp2_with fail
        rw [← hwb.out]
        clear hwb
        refine (K0.out _ hE.out).mono ?_
        rintro e w1 ⟨rfl, hE1⟩
        replace z0 := mkHid (hE1.blk z0.out)
        replace z1 := mkHid (hE1.blk z1.out)
        replace hE := mkHid (hE.out.trans hE1)
        clear hE1
        have y0 : w1.cell? ⟨w.heap.size, 4, none⟩ = some (.bool B1) := row16_cells z0.out 4
        have x0 : w1.cell? ⟨w.heap.size + 1, 4, none⟩ = some (.bool Q1) := row16_cells z1.out 4
        have y1 : w1.cell? ⟨w.heap.size, 5, none⟩ = some (.slice B2 B3 B4) := row16_cells z0.out 5
        have x1 : w1.cell? ⟨w.heap.size + 1, 5, none⟩ = some (.slice Q2 Q3 Q4) := row16_cells z1.out 5
        have y2 : w1.cell? ⟨w.heap.size, 6, none⟩ = some (.bool B5) := row16_cells z0.out 6
        have x2 : w1.cell? ⟨w.heap.size + 1, 6, none⟩ = some (.bool Q5) := row16_cells z1.out 6
        have y3 : w1.cell? ⟨w.heap.size, 7, none⟩ = some (.slice B6 B7 B8) := row16_cells z0.out 7
        have x3 : w1.cell? ⟨w.heap.size + 1, 7, none⟩ = some (.slice Q6 Q7 Q8) := row16_cells z1.out 7
        go_wp2_with fail
        clear x0 y0 x1 y1 x2 y2 x3 y3
        refine (K1.out _ hE.out).mono ?_
        rintro e w2 ⟨rfl, hE2⟩
        replace z0 := mkHid (hE2.blk z0.out)
        replace z1 := mkHid (hE2.blk z1.out)
        replace hE := mkHid (hE.out.trans hE2)
        clear hE2
        have y0 : w2.cell? ⟨w.heap.size, 8, none⟩ = some (.bool C1) := row16_cells z0.out 8
        have x0 : w2.cell? ⟨w.heap.size + 1, 8, none⟩ = some (.bool S1) := row16_cells z1.out 8
        have y1 : w2.cell? ⟨w.heap.size, 9, none⟩ = some (.slice C2 C3 C4) := row16_cells z0.out 9
        have x1 : w2.cell? ⟨w.heap.size + 1, 9, none⟩ = some (.slice S2 S3 S4) := row16_cells z1.out 9
        have y2 : w2.cell? ⟨w.heap.size, 10, none⟩ = some (.bool C5) := row16_cells z0.out 10
        have x2 : w2.cell? ⟨w.heap.size + 1, 10, none⟩ = some (.bool S5) := row16_cells z1.out 10
        have y3 : w2.cell? ⟨w.heap.size, 11, none⟩ = some (.slice C6 C7 C8) := row16_cells z0.out 11
        have x3 : w2.cell? ⟨w.heap.size + 1, 11, none⟩ = some (.slice S6 S7 S8) := row16_cells z1.out 11
        go_wp2_with fail
        clear x0 y0 x1 y1 x2 y2 x3 y3
        refine (K2.out _ hE.out).mono ?_
        rintro e w3 ⟨rfl, hE3⟩
        replace z0 := mkHid (hE3.blk z0.out)
        replace z1 := mkHid (hE3.blk z1.out)
        replace hE := mkHid (hE.out.trans hE3)
        clear hE3
        have y0 : w3.cell? ⟨w.heap.size, 12, none⟩ = some (.bool D1) := row16_cells z0.out 12
        have x0 : w3.cell? ⟨w.heap.size + 1, 12, none⟩ = some (.bool T1) := row16_cells z1.out 12
        have y1 : w3.cell? ⟨w.heap.size, 13, none⟩ = some (.slice D2 D3 D4) := row16_cells z0.out 13
        have x1 : w3.cell? ⟨w.heap.size + 1, 13, none⟩ = some (.slice T2 T3 T4) := row16_cells z1.out 13
        have y2 : w3.cell? ⟨w.heap.size, 14, none⟩ = some (.bool D5) := row16_cells z0.out 14
        have x2 : w3.cell? ⟨w.heap.size + 1, 14, none⟩ = some (.bool T5) := row16_cells z1.out 14
        have y3 : w3.cell? ⟨w.heap.size, 15, none⟩ = some (.slice D6 D7 D8) := row16_cells z0.out 15
        have x3 : w3.cell? ⟨w.heap.size + 1, 15, none⟩ = some (.slice T6 T7 T8) := row16_cells z1.out 15
        go_wp2_with fail
        clear x0 y0 x1 y1 x2 y2 x3 y3
        refine (K3.out _ hE.out).mono ?_
        rintro e w4 ⟨rfl, hE4⟩
        replace z0 := mkHid (hE4.blk z0.out)
        replace z1 := mkHid (hE4.blk z1.out)
        replace hE := mkHid (hE.out.trans hE4)
        clear hE4
        go_wp2_with fail
        go_ret
        exact ⟨rfl, hE.out⟩
end Go.Proofs.YtpmfohhpaoagfaaGreat
