/-
  law01: TwinFrac, TwinRay, TwinMatrix, LeftFrac, LeftRay, LeftMatrix: printed by tools/gen_twin.py. A region's load of a whole row, by the row's law: no program. (The walk's own load of 16 cells costs the kernel 14 s and 2 GB.) PeriodOrders, walked: printed by tools/gen_orders.py. PeriodOrders: for every input the law returns true, and its arguments read as they did. No condition.
-/
import Derived.Test.YtpmfohhpaoagfaaGreatMAP
import Derived.Test.YtpmfohhpaoagfaaGreatMAI
import Derived.Test.YtpmfohhpaoagfaaGreatMAF
import Derived.Test.YtpmfohhpaoagfaaGreatMAA
import Derived.Test.YtpmfohhpaoagfaaGreatMAO
import Derived.Test.YtpmfohhpaoagfaaGreatMAJ
import Derived.Test.YtpmfohhpaoagfaaGreatRows
namespace Go.Proofs.YtpmfohhpaoagfaaGreat
open Go Go.RowKit Go.Proofs
theorem TwinR.flat {w : World} {v : Value} {b : Bool} {l : List Nat} {g T : Nat} {fr : Nat × Nat} {old : Array Value} (h : TwinR w v b l) (hg : w.heap[g]? = some (.cells old T fr)) (ho : old.all flatV = true) (cs : Array Value) : TwinR (w.setRow g cs) v b l := by
  obtain ⟨k, c, h1, h2, h3, h4, h5⟩ := h
  have hne : k ≠ g := by
    rintro rfl
    have hc2 : old[l.length]? = some (.int .u32 7777) := by
      simp only [World.cell?, hg] at h5
      simpa using h5
    obtain ⟨hlt, he⟩ := Array.getElem?_eq_some_iff.1 hc2
    have := Array.all_eq_true.1 ho _ hlt
    rw [he] at this
    cases this
  have e : (w.setRow g cs).heap[k]? = w.heap[k]? := setRow_other _ _ _ _ hne
  refine ⟨k, c, h1, h2, h3, fun j hj => ?_, ?_⟩
  · have := h4 j hj
    simp only [World.cell?, e] at this ⊢
    exact this
  · simp only [World.cell?, e] at h5 ⊢
    exact h5
/-- A fraction's twin. -/
def TwF (w : World) (v : Value) (b1 : Bool) (l1 : List Nat) (b2 : Bool) (l2 : List Nat) : Prop :=
  ∃ a1 c1 a2 c2, v = .agg #[.bool b1, .slice a1 l1.length c1, .bool b2, .slice a2 l2.length c2] ∧ TwinR w (.agg #[.bool b1, .slice a1 l1.length c1]) b1 l1 ∧ TwinR w (.agg #[.bool b2, .slice a2 l2.length c2]) b2 l2
theorem TwF.ext {w w' : World} {v : Value} {b1 b2 : Bool} {l1 l2 : List Nat} (h : TwF w v b1 l1 b2 l2) (e : Ext w w') : TwF w' v b1 l1 b2 l2 := by
  obtain ⟨a1, c1, a2, c2, h1, h2, h3⟩ := h
  exact ⟨a1, c1, a2, c2, h1, h2.ext e, h3.ext e⟩
theorem TwF.flat {w : World} {v : Value} {b1 b2 : Bool} {l1 l2 : List Nat} {g T : Nat} {fr : Nat × Nat} {old : Array Value} (h : TwF w v b1 l1 b2 l2) (hg : w.heap[g]? = some (.cells old T fr)) (ho : old.all flatV = true) (cs : Array Value) : TwF (w.setRow g cs) v b1 l1 b2 l2 := by
  obtain ⟨a1, c1, a2, c2, h1, h2, h3⟩ := h
  exact ⟨a1, c1, a2, c2, h1, h2.flat hg ho cs, h3.flat hg ho cs⟩
theorem TwF.any {w : World} {v : Value} {b1 b2 : Bool} {l1 l2 : List Nat} (h : TwF w v b1 l1 b2 l2) (k1 : l1.length ≤ 4294967296) (k2 : l2.length ≤ 4294967296) : AnyL w v b1 l1 b2 l2 := by
  obtain ⟨a1, c1, a2, c2, h1, h2, h3⟩ := h
  exact ⟨a1, c1, a2, c2, h1, k1, k2, h2.any, h3.any⟩
theorem AnyL.ext {w w' : World} {v : Value} {b1 b2 : Bool} {l1 l2 : List Nat} (h : AnyL w v b1 l1 b2 l2) (e : Ext w w') : AnyL w' v b1 l1 b2 l2 := by
  obtain ⟨a1, c1, a2, c2, h1, h2, h3, h4, h5⟩ := h
  exact ⟨a1, c1, a2, c2, h1, h2, h3, h4.ext e, h5.ext e⟩
theorem st_twinR {ss : List FSpec} (b : Bool) (l : List Nat) (h : StableAll Ext ss) : StableAll Ext (.pred (fun W v => TwinR W v b l) :: ss) := ⟨fun _ _ _ e h => TwinR.ext h e, h⟩
theorem st_twF {ss : List FSpec} (b1 : Bool) (l1 : List Nat) (b2 : Bool) (l2 : List Nat) (h : StableAll Ext ss) : StableAll Ext (.pred (fun W v => TwF W v b1 l1 b2 l2) :: ss) := ⟨fun _ _ _ e h => TwF.ext h e, h⟩

set_option maxRecDepth 100000 in
set_option maxHeartbeats 3200000 in
theorem twinFrac_c (v : Value) (b1 : Bool) (l1 : List Nat) (b2 : Bool) (l2 : List Nat) (w : World) (h : AnyL w v b1 l1 b2 l2) :
    Calls Tryz.prog 17 #[v] w fun e w' => ∃ v', e = .returned v' ∧ TwF w' v' b1 l1 b2 l2 ∧ Ext w w' := by
  obtain ⟨a1, c1, a2, c2, rfl, k1, k2, h1, h2⟩ := h
  have T1 := mkHid (fun W (e : Ext w W) => twinInt_c _ b1 l1 W k1 (h1.ext e))
  have T2 := mkHid (fun W (e : Ext w W) => twinInt_c _ b2 l2 W k2 (h2.ext e))
  clear h1 h2 k1 k2
  obtain ⟨n1, hn1⟩ : ∃ n, n = l1.length := ⟨_, rfl⟩
  obtain ⟨n2, hn2⟩ : ∃ n, n = l2.length := ⟨_, rfl⟩
  rw [← hn1] at T1 ⊢
  rw [← hn2] at T2 ⊢
  replace hn1 := mkHid hn1
  replace hn2 := mkHid hn2
  go_enter Tryz.func17, Tryz.ntmps17
  go_wp2_with fail
  obtain ⟨wb, hwb⟩ : ∃ wb, wb = (w.alloc (.cells #[.bool b1, .slice a1 n1 c1, .bool b2, .slice a2 n2 c2] 26)).alloc (.cells #[.bool false, .slice none 0 0, .bool false, .slice none 0 0] 26) := ⟨_, rfl⟩
  have hE : Ext w wb := by rw [hwb]; exact ((Ext.refl w).al _).al _
  have c10 : ∀ W, Ext wb W → W.cell? ⟨w.heap.size, 0, none⟩ = some (.bool b1) := fun W e => e.cell (by rw [hwb]; go_simp)
  have c11 : ∀ W, Ext wb W → W.cell? ⟨w.heap.size, 1, none⟩ = some (.slice a1 n1 c1) := fun W e => e.cell (by rw [hwb]; go_simp)
  have c12 : ∀ W, Ext wb W → W.cell? ⟨w.heap.size, 2, none⟩ = some (.bool b2) := fun W e => e.cell (by rw [hwb]; go_simp)
  have c13 : ∀ W, Ext wb W → W.cell? ⟨w.heap.size, 3, none⟩ = some (.slice a2 n2 c2) := fun W e => e.cell (by rw [hwb]; go_simp)
  have hB : wb.heap[w.heap.size + 1]? = some (.cells #[.bool false, .slice none 0 0, .bool false, .slice none 0 0] 26) := by rw [hwb]; exact heap_at _ _ _ (by simp)
  rw [← hwb]
  replace hB := mkHid hB
  replace hE := mkHid hE
  clear hwb
  apply region_ext [.val _, .val _, .pred (fun W v => TwinR W v b1 l1), .val _, .val _, .pred (fun W v => TwinR W v b2 l2)] (by kernel_rfl) (stable_vals _ (stable_vals _ (st_twinR _ _ (stable_vals _ (stable_vals _ (st_twinR _ _ trivial))))))
  iterate 2 (refine ⟨fun W hW _ => by go_simp; exact ⟨Ext.refl _, rfl⟩, ?_⟩)
  refine ⟨fun W hW _ => ?g2, fun x2 => ?_⟩
  case g2 =>
    go_simp
    refine (T1.out W (hE.out.trans hW)).mono ?_
    rintro e w' ⟨v, rfl, h1, h2⟩
    exact ⟨v, rfl, h2, h1⟩
  iterate 2 (refine ⟨fun W hW _ => by go_simp; exact ⟨Ext.refl _, rfl⟩, ?_⟩)
  refine ⟨fun W hW _ => ?g5, fun x5 => fun W hW hF => ?fin⟩
  case g5 =>
    go_simp
    refine (T2.out W (hE.out.trans hW)).mono ?_
    rintro e w' ⟨v, rfl, h1, h2⟩
    exact ⟨v, rfl, h2, h1⟩
  case fin =>
    have d2 : TwinR W x2 b1 l1 := hF.2.1 rfl
    have d5 : TwinR W x5 b2 l2 := hF.1 rfl
    obtain ⟨e1, e2, rfl⟩ := d2.shape
    obtain ⟨e3, e4, rfl⟩ := d5.shape
    have hBW := hW.blk hB.out
    have FR := mkHid (show TwF (W.setRow (w.heap.size + 1) #[.bool b1, .slice e1 l1.length e2, .bool b2, .slice e3 l2.length e4]) (.agg #[.bool b1, .slice e1 l1.length e2, .bool b2, .slice e3 l2.length e4]) b1 l1 b2 l2 from ⟨e1, e2, e3, e4, rfl, d2.flat hBW (by simp [flatV]) _, d5.flat hBW (by simp [flatV]) _⟩)
    have FE := mkHid ((hE.out.trans hW).row (show w.heap.size ≤ w.heap.size + 1 by omega) #[.bool b1, .slice e1 l1.length e2, .bool b2, .slice e3 l2.length e4])
    clear hF d2 d5 c10 c11 c12 c13 hW
    go_simp
    go_wp2_with (refine wpList_store_row rfl 26 (.tmp 2) (.tmp 9) rfl (w.heap.size + 1) #[.bool b1, .slice e1 l1.length e2, .bool b2, .slice e3 l2.length e4] rfl rfl 26 _ hBW (by kernel_rfl) rfl (by kernel_rfl) ?_)
    exact bodyPost_ret (results_cell_row rfl _ _ (w.heap.size + 1) 26 #[.bool b1, .slice e1 l1.length e2, .bool b2, .slice e3 l2.length e4] (0, 0) _ rfl (setRow_heap _ _ _ _ _ _ hBW) Tryz.underlying26 rfl (by kernel_rfl)) rfl ⟨_, rfl, FR.out, FE.out⟩

/-- A ray's twin. -/
def TwY (w : World) (v : Value) (bf1 : Bool) (lf1 : List Nat) (bf2 : Bool) (lf2 : List Nat) (bg1 : Bool) (lg1 : List Nat) (bg2 : Bool) (lg2 : List Nat) : Prop :=
  ∃ pf1 qf1 pf2 qf2 pg1 qg1 pg2 qg2, v = .agg #[.bool bf1, .slice pf1 lf1.length qf1, .bool bf2, .slice pf2 lf2.length qf2, .bool bg1, .slice pg1 lg1.length qg1, .bool bg2, .slice pg2 lg2.length qg2] ∧ TwF w (.agg #[.bool bf1, .slice pf1 lf1.length qf1, .bool bf2, .slice pf2 lf2.length qf2]) bf1 lf1 bf2 lf2 ∧ TwF w (.agg #[.bool bg1, .slice pg1 lg1.length qg1, .bool bg2, .slice pg2 lg2.length qg2]) bg1 lg1 bg2 lg2

/-- A matrix's twin. -/
def TwM (w : World) (v : Value) (bf1 : Bool) (lf1 : List Nat) (bf2 : Bool) (lf2 : List Nat) (bg1 : Bool) (lg1 : List Nat) (bg2 : Bool) (lg2 : List Nat) (bh1 : Bool) (lh1 : List Nat) (bh2 : Bool) (lh2 : List Nat) (bk1 : Bool) (lk1 : List Nat) (bk2 : Bool) (lk2 : List Nat) : Prop :=
  ∃ pf1 qf1 pf2 qf2 pg1 qg1 pg2 qg2 ph1 qh1 ph2 qh2 pk1 qk1 pk2 qk2, v = .agg #[.bool bf1, .slice pf1 lf1.length qf1, .bool bf2, .slice pf2 lf2.length qf2, .bool bg1, .slice pg1 lg1.length qg1, .bool bg2, .slice pg2 lg2.length qg2, .bool bh1, .slice ph1 lh1.length qh1, .bool bh2, .slice ph2 lh2.length qh2, .bool bk1, .slice pk1 lk1.length qk1, .bool bk2, .slice pk2 lk2.length qk2] ∧ TwF w (.agg #[.bool bf1, .slice pf1 lf1.length qf1, .bool bf2, .slice pf2 lf2.length qf2]) bf1 lf1 bf2 lf2 ∧ TwF w (.agg #[.bool bg1, .slice pg1 lg1.length qg1, .bool bg2, .slice pg2 lg2.length qg2]) bg1 lg1 bg2 lg2 ∧ TwF w (.agg #[.bool bh1, .slice ph1 lh1.length qh1, .bool bh2, .slice ph2 lh2.length qh2]) bh1 lh1 bh2 lh2 ∧ TwF w (.agg #[.bool bk1, .slice pk1 lk1.length qk1, .bool bk2, .slice pk2 lk2.length qk2]) bk1 lk1 bk2 lk2

set_option maxRecDepth 100000 in
set_option maxHeartbeats 6400000 in
theorem twinRay_c (bf1 : Bool) (lf1 : List Nat) (bf2 : Bool) (lf2 : List Nat) (bg1 : Bool) (lg1 : List Nat) (bg2 : Bool) (lg2 : List Nat) (af1 : Option Addr) (mf1 cf1 : Nat) (af2 : Option Addr) (mf2 cf2 : Nat) (ag1 : Option Addr) (mg1 cg1 : Nat) (ag2 : Option Addr) (mg2 cg2 : Nat) (w : World) (hf : AnyL w (.agg #[.bool bf1, .slice af1 mf1 cf1, .bool bf2, .slice af2 mf2 cf2]) bf1 lf1 bf2 lf2) (hg : AnyL w (.agg #[.bool bg1, .slice ag1 mg1 cg1, .bool bg2, .slice ag2 mg2 cg2]) bg1 lg1 bg2 lg2) :
    Calls Tryz.prog 8 #[.agg #[.bool bf1, .slice af1 mf1 cf1, .bool bf2, .slice af2 mf2 cf2, .bool bg1, .slice ag1 mg1 cg1, .bool bg2, .slice ag2 mg2 cg2]] w fun e w' => ∃ v', e = .returned v' ∧ TwY w' v' bf1 lf1 bf2 lf2 bg1 lg1 bg2 lg2 ∧ Ext w w' := by
  have Tf := mkHid (fun W (e : Ext w W) => twinFrac_c _ bf1 lf1 bf2 lf2 W (hf.ext e))
  have Tg := mkHid (fun W (e : Ext w W) => twinFrac_c _ bg1 lg1 bg2 lg2 W (hg.ext e))
  clear hf hg
  go_enter Tryz.func8, Tryz.ntmps8
  go_wp2_with fail
  obtain ⟨wb, hwb⟩ : ∃ wb, wb = (w.alloc (.cells #[.bool bf1, .slice af1 mf1 cf1, .bool bf2, .slice af2 mf2 cf2, .bool bg1, .slice ag1 mg1 cg1, .bool bg2, .slice ag2 mg2 cg2] 30)).alloc (.cells #[.bool false, .slice none 0 0, .bool false, .slice none 0 0, .bool false, .slice none 0 0, .bool false, .slice none 0 0] 30) := ⟨_, rfl⟩
  have hE : Ext w wb := by rw [hwb]; exact ((Ext.refl w).al _).al _
  have z0 : wb.heap[w.heap.size]? = some (.cells #[.bool bf1, .slice af1 mf1 cf1, .bool bf2, .slice af2 mf2 cf2, .bool bg1, .slice ag1 mg1 cg1, .bool bg2, .slice ag2 mg2 cg2] 30 (0, 0)) := by rw [hwb]; exact (heap_alloc_old _ _ (by simp)).trans (heap_alloc_new _ _)
  have hB : wb.heap[w.heap.size + 1]? = some (.cells #[.bool false, .slice none 0 0, .bool false, .slice none 0 0, .bool false, .slice none 0 0, .bool false, .slice none 0 0] 30 (0, 0)) := by rw [hwb]; exact heap_at _ _ _ (by simp)
  have z_0 : ∀ W, Ext wb W → W.cell? ⟨w.heap.size, 0, none⟩ = some (.bool bf1) := fun W e => e.cell (by simp [World.cell?, z0])
  have z_1 : ∀ W, Ext wb W → W.cell? ⟨w.heap.size, 1, none⟩ = some (.slice af1 mf1 cf1) := fun W e => e.cell (by simp [World.cell?, z0])
  have z_2 : ∀ W, Ext wb W → W.cell? ⟨w.heap.size, 2, none⟩ = some (.bool bf2) := fun W e => e.cell (by simp [World.cell?, z0])
  have z_3 : ∀ W, Ext wb W → W.cell? ⟨w.heap.size, 3, none⟩ = some (.slice af2 mf2 cf2) := fun W e => e.cell (by simp [World.cell?, z0])
  have z_4 : ∀ W, Ext wb W → W.cell? ⟨w.heap.size, 4, none⟩ = some (.bool bg1) := fun W e => e.cell (by simp [World.cell?, z0])
  have z_5 : ∀ W, Ext wb W → W.cell? ⟨w.heap.size, 5, none⟩ = some (.slice ag1 mg1 cg1) := fun W e => e.cell (by simp [World.cell?, z0])
  have z_6 : ∀ W, Ext wb W → W.cell? ⟨w.heap.size, 6, none⟩ = some (.bool bg2) := fun W e => e.cell (by simp [World.cell?, z0])
  have z_7 : ∀ W, Ext wb W → W.cell? ⟨w.heap.size, 7, none⟩ = some (.slice ag2 mg2 cg2) := fun W e => e.cell (by simp [World.cell?, z0])
  rw [← hwb]
  clear hwb z0
  replace hB := mkHid hB
  replace hE := mkHid hE
  apply region_ext [.val _, .val _, .pred (fun W v => TwF W v bf1 lf1 bf2 lf2), .val _, .val _, .pred (fun W v => TwF W v bg1 lg1 bg2 lg2)] (by kernel_rfl) (stable_vals _ (stable_vals _ (st_twF _ _ _ _ (stable_vals _ (stable_vals _ (st_twF _ _ _ _ trivial))))))
  iterate 2 (refine ⟨fun W hW _ => by go_simp; exact ⟨Ext.refl _, rfl⟩, ?_⟩)
  refine ⟨fun W hW _ => ?gf, fun xf => ?_⟩
  case gf =>
    go_simp
    refine (Tf.out W (hE.out.trans hW)).mono ?_
    rintro e w' ⟨v, rfl, h1, h2⟩
    exact ⟨v, rfl, h2, h1⟩
  iterate 2 (refine ⟨fun W hW _ => by go_simp; exact ⟨Ext.refl _, rfl⟩, ?_⟩)
  refine ⟨fun W hW _ => ?gg, fun xg => fun W hW hF => ?fin⟩
  case gg =>
    go_simp
    refine (Tg.out W (hE.out.trans hW)).mono ?_
    rintro e w' ⟨v, rfl, h1, h2⟩
    exact ⟨v, rfl, h2, h1⟩
  case fin =>
    have df : TwF W xf bf1 lf1 bf2 lf2 := hF.2.1 rfl
    have dg : TwF W xg bg1 lg1 bg2 lg2 := hF.1 rfl
    have Df := df
    have Dg := dg
    obtain ⟨pf1, qf1, pf2, qf2, rfl, -, -⟩ := df
    obtain ⟨pg1, qg1, pg2, qg2, rfl, -, -⟩ := dg
    have hBW := hW.blk hB.out
    have FR := mkHid (show TwY (W.setRow (w.heap.size + 1) #[.bool bf1, .slice pf1 lf1.length qf1, .bool bf2, .slice pf2 lf2.length qf2, .bool bg1, .slice pg1 lg1.length qg1, .bool bg2, .slice pg2 lg2.length qg2]) (.agg #[.bool bf1, .slice pf1 lf1.length qf1, .bool bf2, .slice pf2 lf2.length qf2, .bool bg1, .slice pg1 lg1.length qg1, .bool bg2, .slice pg2 lg2.length qg2]) bf1 lf1 bf2 lf2 bg1 lg1 bg2 lg2 from ⟨pf1, qf1, pf2, qf2, pg1, qg1, pg2, qg2, rfl, Df.flat hBW (by simp [flatV]) _, Dg.flat hBW (by simp [flatV]) _⟩)
    have FE := mkHid ((hE.out.trans hW).row (show w.heap.size ≤ w.heap.size + 1 by omega) #[.bool bf1, .slice pf1 lf1.length qf1, .bool bf2, .slice pf2 lf2.length qf2, .bool bg1, .slice pg1 lg1.length qg1, .bool bg2, .slice pg2 lg2.length qg2])
    clear hF hW Df Dg z_0 z_1 z_2 z_3 z_4 z_5 z_6 z_7
    go_simp
    go_wp2_with (refine wpList_store_row rfl 30 (.tmp 2) (.tmp 9) rfl (w.heap.size + 1) #[.bool bf1, .slice pf1 lf1.length qf1, .bool bf2, .slice pf2 lf2.length qf2, .bool bg1, .slice pg1 lg1.length qg1, .bool bg2, .slice pg2 lg2.length qg2] rfl rfl 30 _ hBW (by kernel_rfl) rfl (by kernel_rfl) ?_)
    exact bodyPost_ret (results_cell_row rfl _ _ (w.heap.size + 1) 30 #[.bool bf1, .slice pf1 lf1.length qf1, .bool bf2, .slice pf2 lf2.length qf2, .bool bg1, .slice pg1 lg1.length qg1, .bool bg2, .slice pg2 lg2.length qg2] (0, 0) _ rfl (setRow_heap _ _ _ _ _ _ hBW) Tryz.underlying30 rfl (by kernel_rfl)) rfl ⟨_, rfl, FR.out, FE.out⟩

set_option maxRecDepth 100000 in
set_option maxHeartbeats 6400000 in
theorem twinMatrix_c (bf1 : Bool) (lf1 : List Nat) (bf2 : Bool) (lf2 : List Nat) (bg1 : Bool) (lg1 : List Nat) (bg2 : Bool) (lg2 : List Nat) (bh1 : Bool) (lh1 : List Nat) (bh2 : Bool) (lh2 : List Nat) (bk1 : Bool) (lk1 : List Nat) (bk2 : Bool) (lk2 : List Nat) (af1 : Option Addr) (mf1 cf1 : Nat) (af2 : Option Addr) (mf2 cf2 : Nat) (ag1 : Option Addr) (mg1 cg1 : Nat) (ag2 : Option Addr) (mg2 cg2 : Nat) (ah1 : Option Addr) (mh1 ch1 : Nat) (ah2 : Option Addr) (mh2 ch2 : Nat) (ak1 : Option Addr) (mk1 ck1 : Nat) (ak2 : Option Addr) (mk2 ck2 : Nat) (w : World) (hf : AnyL w (.agg #[.bool bf1, .slice af1 mf1 cf1, .bool bf2, .slice af2 mf2 cf2]) bf1 lf1 bf2 lf2) (hg : AnyL w (.agg #[.bool bg1, .slice ag1 mg1 cg1, .bool bg2, .slice ag2 mg2 cg2]) bg1 lg1 bg2 lg2) (hh : AnyL w (.agg #[.bool bh1, .slice ah1 mh1 ch1, .bool bh2, .slice ah2 mh2 ch2]) bh1 lh1 bh2 lh2) (hk : AnyL w (.agg #[.bool bk1, .slice ak1 mk1 ck1, .bool bk2, .slice ak2 mk2 ck2]) bk1 lk1 bk2 lk2) :
    Calls Tryz.prog 7 #[.agg #[.bool bf1, .slice af1 mf1 cf1, .bool bf2, .slice af2 mf2 cf2, .bool bg1, .slice ag1 mg1 cg1, .bool bg2, .slice ag2 mg2 cg2, .bool bh1, .slice ah1 mh1 ch1, .bool bh2, .slice ah2 mh2 ch2, .bool bk1, .slice ak1 mk1 ck1, .bool bk2, .slice ak2 mk2 ck2]] w fun e w' => ∃ v', e = .returned v' ∧ TwM w' v' bf1 lf1 bf2 lf2 bg1 lg1 bg2 lg2 bh1 lh1 bh2 lh2 bk1 lk1 bk2 lk2 ∧ Ext w w' := by
  have Tf := mkHid (fun W (e : Ext w W) => twinFrac_c _ bf1 lf1 bf2 lf2 W (hf.ext e))
  have Tg := mkHid (fun W (e : Ext w W) => twinFrac_c _ bg1 lg1 bg2 lg2 W (hg.ext e))
  have Th := mkHid (fun W (e : Ext w W) => twinFrac_c _ bh1 lh1 bh2 lh2 W (hh.ext e))
  have Tk := mkHid (fun W (e : Ext w W) => twinFrac_c _ bk1 lk1 bk2 lk2 W (hk.ext e))
  clear hf hg hh hk
  go_enter Tryz.func7, Tryz.ntmps7
  go_wp2_with fail
  obtain ⟨wb, hwb⟩ : ∃ wb, wb = (w.alloc (.cells #[.bool bf1, .slice af1 mf1 cf1, .bool bf2, .slice af2 mf2 cf2, .bool bg1, .slice ag1 mg1 cg1, .bool bg2, .slice ag2 mg2 cg2, .bool bh1, .slice ah1 mh1 ch1, .bool bh2, .slice ah2 mh2 ch2, .bool bk1, .slice ak1 mk1 ck1, .bool bk2, .slice ak2 mk2 ck2] 28)).alloc (.cells #[.bool false, .slice none 0 0, .bool false, .slice none 0 0, .bool false, .slice none 0 0, .bool false, .slice none 0 0, .bool false, .slice none 0 0, .bool false, .slice none 0 0, .bool false, .slice none 0 0, .bool false, .slice none 0 0] 28) := ⟨_, rfl⟩
  have hE : Ext w wb := by rw [hwb]; exact ((Ext.refl w).al _).al _
  have z0 : wb.heap[w.heap.size]? = some (.cells #[.bool bf1, .slice af1 mf1 cf1, .bool bf2, .slice af2 mf2 cf2, .bool bg1, .slice ag1 mg1 cg1, .bool bg2, .slice ag2 mg2 cg2, .bool bh1, .slice ah1 mh1 ch1, .bool bh2, .slice ah2 mh2 ch2, .bool bk1, .slice ak1 mk1 ck1, .bool bk2, .slice ak2 mk2 ck2] 28 (0, 0)) := by rw [hwb]; exact (heap_alloc_old _ _ (by simp)).trans (heap_alloc_new _ _)
  have hB : wb.heap[w.heap.size + 1]? = some (.cells #[.bool false, .slice none 0 0, .bool false, .slice none 0 0, .bool false, .slice none 0 0, .bool false, .slice none 0 0, .bool false, .slice none 0 0, .bool false, .slice none 0 0, .bool false, .slice none 0 0, .bool false, .slice none 0 0] 28 (0, 0)) := by rw [hwb]; exact heap_at _ _ _ (by simp)
  have z_0 : ∀ W, Ext wb W → W.cell? ⟨w.heap.size, 0, none⟩ = some (.bool bf1) := fun W e => e.cell (by simp [World.cell?, z0])
  have z_1 : ∀ W, Ext wb W → W.cell? ⟨w.heap.size, 1, none⟩ = some (.slice af1 mf1 cf1) := fun W e => e.cell (by simp [World.cell?, z0])
  have z_2 : ∀ W, Ext wb W → W.cell? ⟨w.heap.size, 2, none⟩ = some (.bool bf2) := fun W e => e.cell (by simp [World.cell?, z0])
  have z_3 : ∀ W, Ext wb W → W.cell? ⟨w.heap.size, 3, none⟩ = some (.slice af2 mf2 cf2) := fun W e => e.cell (by simp [World.cell?, z0])
  have z_4 : ∀ W, Ext wb W → W.cell? ⟨w.heap.size, 4, none⟩ = some (.bool bg1) := fun W e => e.cell (by simp [World.cell?, z0])
  have z_5 : ∀ W, Ext wb W → W.cell? ⟨w.heap.size, 5, none⟩ = some (.slice ag1 mg1 cg1) := fun W e => e.cell (by simp [World.cell?, z0])
  have z_6 : ∀ W, Ext wb W → W.cell? ⟨w.heap.size, 6, none⟩ = some (.bool bg2) := fun W e => e.cell (by simp [World.cell?, z0])
  have z_7 : ∀ W, Ext wb W → W.cell? ⟨w.heap.size, 7, none⟩ = some (.slice ag2 mg2 cg2) := fun W e => e.cell (by simp [World.cell?, z0])
  have z_8 : ∀ W, Ext wb W → W.cell? ⟨w.heap.size, 8, none⟩ = some (.bool bh1) := fun W e => e.cell (by simp [World.cell?, z0])
  have z_9 : ∀ W, Ext wb W → W.cell? ⟨w.heap.size, 9, none⟩ = some (.slice ah1 mh1 ch1) := fun W e => e.cell (by simp [World.cell?, z0])
  have z_10 : ∀ W, Ext wb W → W.cell? ⟨w.heap.size, 10, none⟩ = some (.bool bh2) := fun W e => e.cell (by simp [World.cell?, z0])
  have z_11 : ∀ W, Ext wb W → W.cell? ⟨w.heap.size, 11, none⟩ = some (.slice ah2 mh2 ch2) := fun W e => e.cell (by simp [World.cell?, z0])
  have z_12 : ∀ W, Ext wb W → W.cell? ⟨w.heap.size, 12, none⟩ = some (.bool bk1) := fun W e => e.cell (by simp [World.cell?, z0])
  have z_13 : ∀ W, Ext wb W → W.cell? ⟨w.heap.size, 13, none⟩ = some (.slice ak1 mk1 ck1) := fun W e => e.cell (by simp [World.cell?, z0])
  have z_14 : ∀ W, Ext wb W → W.cell? ⟨w.heap.size, 14, none⟩ = some (.bool bk2) := fun W e => e.cell (by simp [World.cell?, z0])
  have z_15 : ∀ W, Ext wb W → W.cell? ⟨w.heap.size, 15, none⟩ = some (.slice ak2 mk2 ck2) := fun W e => e.cell (by simp [World.cell?, z0])
  rw [← hwb]
  clear hwb z0
  replace hB := mkHid hB
  replace hE := mkHid hE
  apply region_ext [.val _, .val _, .pred (fun W v => TwF W v bf1 lf1 bf2 lf2), .val _, .val _, .pred (fun W v => TwF W v bg1 lg1 bg2 lg2), .val _, .val _, .pred (fun W v => TwF W v bh1 lh1 bh2 lh2), .val _, .val _, .pred (fun W v => TwF W v bk1 lk1 bk2 lk2)] (by kernel_rfl) (stable_vals _ (stable_vals _ (st_twF _ _ _ _ (stable_vals _ (stable_vals _ (st_twF _ _ _ _ (stable_vals _ (stable_vals _ (st_twF _ _ _ _ (stable_vals _ (stable_vals _ (st_twF _ _ _ _ trivial))))))))))))
  iterate 2 (refine ⟨fun W hW _ => by go_simp; exact ⟨Ext.refl _, rfl⟩, ?_⟩)
  refine ⟨fun W hW _ => ?gf, fun xf => ?_⟩
  case gf =>
    go_simp
    refine (Tf.out W (hE.out.trans hW)).mono ?_
    rintro e w' ⟨v, rfl, h1, h2⟩
    exact ⟨v, rfl, h2, h1⟩
  iterate 2 (refine ⟨fun W hW _ => by go_simp; exact ⟨Ext.refl _, rfl⟩, ?_⟩)
  refine ⟨fun W hW _ => ?gg, fun xg => ?_⟩
  case gg =>
    go_simp
    refine (Tg.out W (hE.out.trans hW)).mono ?_
    rintro e w' ⟨v, rfl, h1, h2⟩
    exact ⟨v, rfl, h2, h1⟩
  iterate 2 (refine ⟨fun W hW _ => by go_simp; exact ⟨Ext.refl _, rfl⟩, ?_⟩)
  refine ⟨fun W hW _ => ?gh, fun xh => ?_⟩
  case gh =>
    go_simp
    refine (Th.out W (hE.out.trans hW)).mono ?_
    rintro e w' ⟨v, rfl, h1, h2⟩
    exact ⟨v, rfl, h2, h1⟩
  iterate 2 (refine ⟨fun W hW _ => by go_simp; exact ⟨Ext.refl _, rfl⟩, ?_⟩)
  refine ⟨fun W hW _ => ?gk, fun xk => fun W hW hF => ?fin⟩
  case gk =>
    go_simp
    refine (Tk.out W (hE.out.trans hW)).mono ?_
    rintro e w' ⟨v, rfl, h1, h2⟩
    exact ⟨v, rfl, h2, h1⟩
  case fin =>
    have df : TwF W xf bf1 lf1 bf2 lf2 := hF.2.2.2.1 rfl
    have dg : TwF W xg bg1 lg1 bg2 lg2 := hF.2.2.1 rfl
    have dh : TwF W xh bh1 lh1 bh2 lh2 := hF.2.1 rfl
    have dk : TwF W xk bk1 lk1 bk2 lk2 := hF.1 rfl
    have Df := df
    have Dg := dg
    have Dh := dh
    have Dk := dk
    obtain ⟨pf1, qf1, pf2, qf2, rfl, -, -⟩ := df
    obtain ⟨pg1, qg1, pg2, qg2, rfl, -, -⟩ := dg
    obtain ⟨ph1, qh1, ph2, qh2, rfl, -, -⟩ := dh
    obtain ⟨pk1, qk1, pk2, qk2, rfl, -, -⟩ := dk
    have hBW := hW.blk hB.out
    have FR := mkHid (show TwM (W.setRow (w.heap.size + 1) #[.bool bf1, .slice pf1 lf1.length qf1, .bool bf2, .slice pf2 lf2.length qf2, .bool bg1, .slice pg1 lg1.length qg1, .bool bg2, .slice pg2 lg2.length qg2, .bool bh1, .slice ph1 lh1.length qh1, .bool bh2, .slice ph2 lh2.length qh2, .bool bk1, .slice pk1 lk1.length qk1, .bool bk2, .slice pk2 lk2.length qk2]) (.agg #[.bool bf1, .slice pf1 lf1.length qf1, .bool bf2, .slice pf2 lf2.length qf2, .bool bg1, .slice pg1 lg1.length qg1, .bool bg2, .slice pg2 lg2.length qg2, .bool bh1, .slice ph1 lh1.length qh1, .bool bh2, .slice ph2 lh2.length qh2, .bool bk1, .slice pk1 lk1.length qk1, .bool bk2, .slice pk2 lk2.length qk2]) bf1 lf1 bf2 lf2 bg1 lg1 bg2 lg2 bh1 lh1 bh2 lh2 bk1 lk1 bk2 lk2 from ⟨pf1, qf1, pf2, qf2, pg1, qg1, pg2, qg2, ph1, qh1, ph2, qh2, pk1, qk1, pk2, qk2, rfl, Df.flat hBW (by simp [flatV]) _, Dg.flat hBW (by simp [flatV]) _, Dh.flat hBW (by simp [flatV]) _, Dk.flat hBW (by simp [flatV]) _⟩)
    have FE := mkHid ((hE.out.trans hW).row (show w.heap.size ≤ w.heap.size + 1 by omega) #[.bool bf1, .slice pf1 lf1.length qf1, .bool bf2, .slice pf2 lf2.length qf2, .bool bg1, .slice pg1 lg1.length qg1, .bool bg2, .slice pg2 lg2.length qg2, .bool bh1, .slice ph1 lh1.length qh1, .bool bh2, .slice ph2 lh2.length qh2, .bool bk1, .slice pk1 lk1.length qk1, .bool bk2, .slice pk2 lk2.length qk2])
    clear hF hW Df Dg Dh Dk z_0 z_1 z_2 z_3 z_4 z_5 z_6 z_7 z_8 z_9 z_10 z_11 z_12 z_13 z_14 z_15
    go_simp
    go_wp2_with (refine wpList_store_row rfl 28 (.tmp 2) (.tmp 15) rfl (w.heap.size + 1) #[.bool bf1, .slice pf1 lf1.length qf1, .bool bf2, .slice pf2 lf2.length qf2, .bool bg1, .slice pg1 lg1.length qg1, .bool bg2, .slice pg2 lg2.length qg2, .bool bh1, .slice ph1 lh1.length qh1, .bool bh2, .slice ph2 lh2.length qh2, .bool bk1, .slice pk1 lk1.length qk1, .bool bk2, .slice pk2 lk2.length qk2] rfl rfl 28 _ hBW (by kernel_rfl) rfl (by kernel_rfl) ?_)
    exact bodyPost_ret (results_cell_row rfl _ _ (w.heap.size + 1) 28 #[.bool bf1, .slice pf1 lf1.length qf1, .bool bf2, .slice pf2 lf2.length qf2, .bool bg1, .slice pg1 lg1.length qg1, .bool bg2, .slice pg2 lg2.length qg2, .bool bh1, .slice ph1 lh1.length qh1, .bool bh2, .slice ph2 lh2.length qh2, .bool bk1, .slice pk1 lk1.length qk1, .bool bk2, .slice pk2 lk2.length qk2] (0, 0) _ rfl (setRow_heap _ _ _ _ _ _ hBW) Tryz.underlying28 rfl (by kernel_rfl)) rfl ⟨_, rfl, FR.out, FE.out⟩

set_option maxRecDepth 100000 in
set_option maxHeartbeats 6400000 in
theorem leftFrac_c (bf1 : Bool) (lf1 : List Nat) (bf2 : Bool) (lf2 : List Nat) (af1 af1' : Option Addr) (mf1 cf1 cf1' : Nat) (af2 af2' : Option Addr) (mf2 cf2 cf2' : Nat) (w : World) (kf1 : lf1.length ≤ 4294967296) (kf2 : lf2.length ≤ 4294967296) (t0 : TwinR w (.agg #[.bool bf1, .slice af1' mf1 cf1']) bf1 lf1) (t1 : TwinR w (.agg #[.bool bf2, .slice af2' mf2 cf2']) bf2 lf2) (u0 : AnyR w (.agg #[.bool bf1, .slice af1 mf1 cf1]) bf1 lf1) (u1 : AnyR w (.agg #[.bool bf2, .slice af2 mf2 cf2]) bf2 lf2) :
    Calls Tryz.prog 32 #[.agg #[.bool bf1, .slice af1' mf1 cf1', .bool bf2, .slice af2' mf2 cf2'], .agg #[.bool bf1, .slice af1 mf1 cf1, .bool bf2, .slice af2 mf2 cf2]] w fun e w' => e = .returned (.bool true) ∧ Ext w w' := by
  have K0 := mkHid (fun W (e : Ext w W) => leftInt_c _ _ bf1 lf1 W kf1 (t0.ext e) (u0.ext e))
  have K1 := mkHid (fun W (e : Ext w W) => leftInt_c _ _ bf2 lf2 W kf2 (t1.ext e) (u1.ext e))
  clear t0 t1 u0 u1 kf1 kf2
  obtain ⟨wb, hwb⟩ : ∃ wb, wb = (w.alloc (.cells #[.bool bf1, .slice af1' mf1 cf1', .bool bf2, .slice af2' mf2 cf2'] 26)).alloc (.cells #[.bool bf1, .slice af1 mf1 cf1, .bool bf2, .slice af2 mf2 cf2] 26) := ⟨_, rfl⟩
  have hE : Ext w wb := by rw [hwb]; exact ((Ext.refl w).al _).al _
  have z0 : wb.heap[w.heap.size]? = some (.cells #[.bool bf1, .slice af1' mf1 cf1', .bool bf2, .slice af2' mf2 cf2'] 26 (0, 0)) := by rw [hwb]; exact (heap_alloc_old _ _ (by simp)).trans (heap_alloc_new _ _)
  have z1 : wb.heap[w.heap.size + 1]? = some (.cells #[.bool bf1, .slice af1 mf1 cf1, .bool bf2, .slice af2 mf2 cf2] 26 (0, 0)) := by rw [hwb]; exact heap_at _ _ _ (by simp)
  replace hwb := mkHid hwb
  replace z0 := mkHid z0
  replace z1 := mkHid z1
  replace hE := mkHid hE
  go_enter Tryz.func32, Tryz.ntmps32
  go_wp2_with fail
  rw [← hwb.out]
  clear hwb
  refine (K0.out _ hE.out).mono ?_
  rintro e w1 ⟨rfl, hE1⟩
  replace z0 := mkHid (hE1.blk z0.out)
  replace z1 := mkHid (hE1.blk z1.out)
  replace hE := mkHid (hE.out.trans hE1)
  clear hE1
  have y0 : w1.cell? ⟨w.heap.size, 2, none⟩ = some (.bool bf2) := row16_cells z0.out 2
  have x0 : w1.cell? ⟨w.heap.size + 1, 2, none⟩ = some (.bool bf2) := row16_cells z1.out 2
  have y1 : w1.cell? ⟨w.heap.size, 3, none⟩ = some (.slice af2' mf2 cf2') := row16_cells z0.out 3
  have x1 : w1.cell? ⟨w.heap.size + 1, 3, none⟩ = some (.slice af2 mf2 cf2) := row16_cells z1.out 3
  go_wp2_with fail
  clear x0 y0 x1 y1
  refine (K1.out _ hE.out).mono ?_
  rintro e w2 ⟨rfl, hE2⟩
  replace z0 := mkHid (hE2.blk z0.out)
  replace z1 := mkHid (hE2.blk z1.out)
  replace hE := mkHid (hE.out.trans hE2)
  clear hE2
  go_wp2_with fail
  go_ret
  exact ⟨rfl, hE.out⟩

theorem leftFrac_f (v x : Value) (b1 : Bool) (l1 : List Nat) (b2 : Bool) (l2 : List Nat) (w : World) (k1 : l1.length ≤ 4294967296) (k2 : l2.length ≤ 4294967296) (t : TwF w v b1 l1 b2 l2) (u : AnyL w x b1 l1 b2 l2) :
    Calls Tryz.prog 32 #[v, x] w fun e w' => e = .returned (.bool true) ∧ Ext w w' := by
  obtain ⟨a1, c1, a2, c2, rfl, t1, t2⟩ := t
  obtain ⟨d1, e1, d2, e2, rfl, -, -, u1, u2⟩ := u
  exact leftFrac_c b1 l1 b2 l2 _ _ _ _ _ _ _ _ _ _ w k1 k2 t1 t2 u1 u2

set_option maxRecDepth 100000 in
set_option maxHeartbeats 6400000 in
theorem leftRay_c (bf1 : Bool) (lf1 : List Nat) (bf2 : Bool) (lf2 : List Nat) (bg1 : Bool) (lg1 : List Nat) (bg2 : Bool) (lg2 : List Nat) (af1 af1' : Option Addr) (mf1 cf1 cf1' : Nat) (af2 af2' : Option Addr) (mf2 cf2 cf2' : Nat) (ag1 ag1' : Option Addr) (mg1 cg1 cg1' : Nat) (ag2 ag2' : Option Addr) (mg2 cg2 cg2' : Nat) (w : World) (kf1 : lf1.length ≤ 4294967296) (kf2 : lf2.length ≤ 4294967296) (kg1 : lg1.length ≤ 4294967296) (kg2 : lg2.length ≤ 4294967296) (t0 : TwF w (.agg #[.bool bf1, .slice af1' mf1 cf1', .bool bf2, .slice af2' mf2 cf2']) bf1 lf1 bf2 lf2) (t1 : TwF w (.agg #[.bool bg1, .slice ag1' mg1 cg1', .bool bg2, .slice ag2' mg2 cg2']) bg1 lg1 bg2 lg2) (u0 : AnyL w (.agg #[.bool bf1, .slice af1 mf1 cf1, .bool bf2, .slice af2 mf2 cf2]) bf1 lf1 bf2 lf2) (u1 : AnyL w (.agg #[.bool bg1, .slice ag1 mg1 cg1, .bool bg2, .slice ag2 mg2 cg2]) bg1 lg1 bg2 lg2) :
    Calls Tryz.prog 14 #[.agg #[.bool bf1, .slice af1' mf1 cf1', .bool bf2, .slice af2' mf2 cf2', .bool bg1, .slice ag1' mg1 cg1', .bool bg2, .slice ag2' mg2 cg2'], .agg #[.bool bf1, .slice af1 mf1 cf1, .bool bf2, .slice af2 mf2 cf2, .bool bg1, .slice ag1 mg1 cg1, .bool bg2, .slice ag2 mg2 cg2]] w fun e w' => e = .returned (.bool true) ∧ Ext w w' := by
  have K0 := mkHid (fun W (e : Ext w W) => leftFrac_f _ _ bf1 lf1 bf2 lf2 W kf1 kf2 (t0.ext e) (u0.ext e))
  have K1 := mkHid (fun W (e : Ext w W) => leftFrac_f _ _ bg1 lg1 bg2 lg2 W kg1 kg2 (t1.ext e) (u1.ext e))
  clear t0 t1 u0 u1 kf1 kf2 kg1 kg2
  obtain ⟨wb, hwb⟩ : ∃ wb, wb = (w.alloc (.cells #[.bool bf1, .slice af1' mf1 cf1', .bool bf2, .slice af2' mf2 cf2', .bool bg1, .slice ag1' mg1 cg1', .bool bg2, .slice ag2' mg2 cg2'] 30)).alloc (.cells #[.bool bf1, .slice af1 mf1 cf1, .bool bf2, .slice af2 mf2 cf2, .bool bg1, .slice ag1 mg1 cg1, .bool bg2, .slice ag2 mg2 cg2] 30) := ⟨_, rfl⟩
  have hE : Ext w wb := by rw [hwb]; exact ((Ext.refl w).al _).al _
  have z0 : wb.heap[w.heap.size]? = some (.cells #[.bool bf1, .slice af1' mf1 cf1', .bool bf2, .slice af2' mf2 cf2', .bool bg1, .slice ag1' mg1 cg1', .bool bg2, .slice ag2' mg2 cg2'] 30 (0, 0)) := by rw [hwb]; exact (heap_alloc_old _ _ (by simp)).trans (heap_alloc_new _ _)
  have z1 : wb.heap[w.heap.size + 1]? = some (.cells #[.bool bf1, .slice af1 mf1 cf1, .bool bf2, .slice af2 mf2 cf2, .bool bg1, .slice ag1 mg1 cg1, .bool bg2, .slice ag2 mg2 cg2] 30 (0, 0)) := by rw [hwb]; exact heap_at _ _ _ (by simp)
  replace hwb := mkHid hwb
  replace z0 := mkHid z0
  replace z1 := mkHid z1
  replace hE := mkHid hE
  go_enter Tryz.func14, Tryz.ntmps14
  go_wp2_with fail
  rw [← hwb.out]
  clear hwb
  refine (K0.out _ hE.out).mono ?_
  rintro e w1 ⟨rfl, hE1⟩
  replace z0 := mkHid (hE1.blk z0.out)
  replace z1 := mkHid (hE1.blk z1.out)
  replace hE := mkHid (hE.out.trans hE1)
  clear hE1
  have y0 : w1.cell? ⟨w.heap.size, 4, none⟩ = some (.bool bg1) := row16_cells z0.out 4
  have x0 : w1.cell? ⟨w.heap.size + 1, 4, none⟩ = some (.bool bg1) := row16_cells z1.out 4
  have y1 : w1.cell? ⟨w.heap.size, 5, none⟩ = some (.slice ag1' mg1 cg1') := row16_cells z0.out 5
  have x1 : w1.cell? ⟨w.heap.size + 1, 5, none⟩ = some (.slice ag1 mg1 cg1) := row16_cells z1.out 5
  have y2 : w1.cell? ⟨w.heap.size, 6, none⟩ = some (.bool bg2) := row16_cells z0.out 6
  have x2 : w1.cell? ⟨w.heap.size + 1, 6, none⟩ = some (.bool bg2) := row16_cells z1.out 6
  have y3 : w1.cell? ⟨w.heap.size, 7, none⟩ = some (.slice ag2' mg2 cg2') := row16_cells z0.out 7
  have x3 : w1.cell? ⟨w.heap.size + 1, 7, none⟩ = some (.slice ag2 mg2 cg2) := row16_cells z1.out 7
  go_wp2_with fail
  clear x0 y0 x1 y1 x2 y2 x3 y3
  refine (K1.out _ hE.out).mono ?_
  rintro e w2 ⟨rfl, hE2⟩
  replace z0 := mkHid (hE2.blk z0.out)
  replace z1 := mkHid (hE2.blk z1.out)
  replace hE := mkHid (hE.out.trans hE2)
  clear hE2
  go_wp2_with fail
  go_ret
  exact ⟨rfl, hE.out⟩

set_option maxRecDepth 100000 in
set_option maxHeartbeats 6400000 in
theorem leftMatrix_c (bf1 : Bool) (lf1 : List Nat) (bf2 : Bool) (lf2 : List Nat) (bg1 : Bool) (lg1 : List Nat) (bg2 : Bool) (lg2 : List Nat) (bh1 : Bool) (lh1 : List Nat) (bh2 : Bool) (lh2 : List Nat) (bk1 : Bool) (lk1 : List Nat) (bk2 : Bool) (lk2 : List Nat) (af1 af1' : Option Addr) (mf1 cf1 cf1' : Nat) (af2 af2' : Option Addr) (mf2 cf2 cf2' : Nat) (ag1 ag1' : Option Addr) (mg1 cg1 cg1' : Nat) (ag2 ag2' : Option Addr) (mg2 cg2 cg2' : Nat) (ah1 ah1' : Option Addr) (mh1 ch1 ch1' : Nat) (ah2 ah2' : Option Addr) (mh2 ch2 ch2' : Nat) (ak1 ak1' : Option Addr) (mk1 ck1 ck1' : Nat) (ak2 ak2' : Option Addr) (mk2 ck2 ck2' : Nat) (w : World) (kf1 : lf1.length ≤ 4294967296) (kf2 : lf2.length ≤ 4294967296) (kg1 : lg1.length ≤ 4294967296) (kg2 : lg2.length ≤ 4294967296) (kh1 : lh1.length ≤ 4294967296) (kh2 : lh2.length ≤ 4294967296) (kk1 : lk1.length ≤ 4294967296) (kk2 : lk2.length ≤ 4294967296) (t0 : TwF w (.agg #[.bool bf1, .slice af1' mf1 cf1', .bool bf2, .slice af2' mf2 cf2']) bf1 lf1 bf2 lf2) (t1 : TwF w (.agg #[.bool bg1, .slice ag1' mg1 cg1', .bool bg2, .slice ag2' mg2 cg2']) bg1 lg1 bg2 lg2) (t2 : TwF w (.agg #[.bool bh1, .slice ah1' mh1 ch1', .bool bh2, .slice ah2' mh2 ch2']) bh1 lh1 bh2 lh2) (t3 : TwF w (.agg #[.bool bk1, .slice ak1' mk1 ck1', .bool bk2, .slice ak2' mk2 ck2']) bk1 lk1 bk2 lk2) (u0 : AnyL w (.agg #[.bool bf1, .slice af1 mf1 cf1, .bool bf2, .slice af2 mf2 cf2]) bf1 lf1 bf2 lf2) (u1 : AnyL w (.agg #[.bool bg1, .slice ag1 mg1 cg1, .bool bg2, .slice ag2 mg2 cg2]) bg1 lg1 bg2 lg2) (u2 : AnyL w (.agg #[.bool bh1, .slice ah1 mh1 ch1, .bool bh2, .slice ah2 mh2 ch2]) bh1 lh1 bh2 lh2) (u3 : AnyL w (.agg #[.bool bk1, .slice ak1 mk1 ck1, .bool bk2, .slice ak2 mk2 ck2]) bk1 lk1 bk2 lk2) :
    Calls Tryz.prog 13 #[.agg #[.bool bf1, .slice af1' mf1 cf1', .bool bf2, .slice af2' mf2 cf2', .bool bg1, .slice ag1' mg1 cg1', .bool bg2, .slice ag2' mg2 cg2', .bool bh1, .slice ah1' mh1 ch1', .bool bh2, .slice ah2' mh2 ch2', .bool bk1, .slice ak1' mk1 ck1', .bool bk2, .slice ak2' mk2 ck2'], .agg #[.bool bf1, .slice af1 mf1 cf1, .bool bf2, .slice af2 mf2 cf2, .bool bg1, .slice ag1 mg1 cg1, .bool bg2, .slice ag2 mg2 cg2, .bool bh1, .slice ah1 mh1 ch1, .bool bh2, .slice ah2 mh2 ch2, .bool bk1, .slice ak1 mk1 ck1, .bool bk2, .slice ak2 mk2 ck2]] w fun e w' => e = .returned (.bool true) ∧ Ext w w' := by
  have K0 := mkHid (fun W (e : Ext w W) => leftFrac_f _ _ bf1 lf1 bf2 lf2 W kf1 kf2 (t0.ext e) (u0.ext e))
  have K1 := mkHid (fun W (e : Ext w W) => leftFrac_f _ _ bg1 lg1 bg2 lg2 W kg1 kg2 (t1.ext e) (u1.ext e))
  have K2 := mkHid (fun W (e : Ext w W) => leftFrac_f _ _ bh1 lh1 bh2 lh2 W kh1 kh2 (t2.ext e) (u2.ext e))
  have K3 := mkHid (fun W (e : Ext w W) => leftFrac_f _ _ bk1 lk1 bk2 lk2 W kk1 kk2 (t3.ext e) (u3.ext e))
  clear t0 t1 t2 t3 u0 u1 u2 u3 kf1 kf2 kg1 kg2 kh1 kh2 kk1 kk2
  obtain ⟨wb, hwb⟩ : ∃ wb, wb = (w.alloc (.cells #[.bool bf1, .slice af1' mf1 cf1', .bool bf2, .slice af2' mf2 cf2', .bool bg1, .slice ag1' mg1 cg1', .bool bg2, .slice ag2' mg2 cg2', .bool bh1, .slice ah1' mh1 ch1', .bool bh2, .slice ah2' mh2 ch2', .bool bk1, .slice ak1' mk1 ck1', .bool bk2, .slice ak2' mk2 ck2'] 28)).alloc (.cells #[.bool bf1, .slice af1 mf1 cf1, .bool bf2, .slice af2 mf2 cf2, .bool bg1, .slice ag1 mg1 cg1, .bool bg2, .slice ag2 mg2 cg2, .bool bh1, .slice ah1 mh1 ch1, .bool bh2, .slice ah2 mh2 ch2, .bool bk1, .slice ak1 mk1 ck1, .bool bk2, .slice ak2 mk2 ck2] 28) := ⟨_, rfl⟩
  have hE : Ext w wb := by rw [hwb]; exact ((Ext.refl w).al _).al _
  have z0 : wb.heap[w.heap.size]? = some (.cells #[.bool bf1, .slice af1' mf1 cf1', .bool bf2, .slice af2' mf2 cf2', .bool bg1, .slice ag1' mg1 cg1', .bool bg2, .slice ag2' mg2 cg2', .bool bh1, .slice ah1' mh1 ch1', .bool bh2, .slice ah2' mh2 ch2', .bool bk1, .slice ak1' mk1 ck1', .bool bk2, .slice ak2' mk2 ck2'] 28 (0, 0)) := by rw [hwb]; exact (heap_alloc_old _ _ (by simp)).trans (heap_alloc_new _ _)
  have z1 : wb.heap[w.heap.size + 1]? = some (.cells #[.bool bf1, .slice af1 mf1 cf1, .bool bf2, .slice af2 mf2 cf2, .bool bg1, .slice ag1 mg1 cg1, .bool bg2, .slice ag2 mg2 cg2, .bool bh1, .slice ah1 mh1 ch1, .bool bh2, .slice ah2 mh2 ch2, .bool bk1, .slice ak1 mk1 ck1, .bool bk2, .slice ak2 mk2 ck2] 28 (0, 0)) := by rw [hwb]; exact heap_at _ _ _ (by simp)
  replace hwb := mkHid hwb
  replace z0 := mkHid z0
  replace z1 := mkHid z1
  replace hE := mkHid hE
  go_enter Tryz.func13, Tryz.ntmps13
  go_wp2_with fail
  rw [← hwb.out]
  clear hwb
  refine (K0.out _ hE.out).mono ?_
  rintro e w1 ⟨rfl, hE1⟩
  replace z0 := mkHid (hE1.blk z0.out)
  replace z1 := mkHid (hE1.blk z1.out)
  replace hE := mkHid (hE.out.trans hE1)
  clear hE1
  have y0 : w1.cell? ⟨w.heap.size, 4, none⟩ = some (.bool bg1) := row16_cells z0.out 4
  have x0 : w1.cell? ⟨w.heap.size + 1, 4, none⟩ = some (.bool bg1) := row16_cells z1.out 4
  have y1 : w1.cell? ⟨w.heap.size, 5, none⟩ = some (.slice ag1' mg1 cg1') := row16_cells z0.out 5
  have x1 : w1.cell? ⟨w.heap.size + 1, 5, none⟩ = some (.slice ag1 mg1 cg1) := row16_cells z1.out 5
  have y2 : w1.cell? ⟨w.heap.size, 6, none⟩ = some (.bool bg2) := row16_cells z0.out 6
  have x2 : w1.cell? ⟨w.heap.size + 1, 6, none⟩ = some (.bool bg2) := row16_cells z1.out 6
  have y3 : w1.cell? ⟨w.heap.size, 7, none⟩ = some (.slice ag2' mg2 cg2') := row16_cells z0.out 7
  have x3 : w1.cell? ⟨w.heap.size + 1, 7, none⟩ = some (.slice ag2 mg2 cg2) := row16_cells z1.out 7
  go_wp2_with fail
  clear x0 y0 x1 y1 x2 y2 x3 y3
  refine (K1.out _ hE.out).mono ?_
  rintro e w2 ⟨rfl, hE2⟩
  replace z0 := mkHid (hE2.blk z0.out)
  replace z1 := mkHid (hE2.blk z1.out)
  replace hE := mkHid (hE.out.trans hE2)
  clear hE2
  have y0 : w2.cell? ⟨w.heap.size, 8, none⟩ = some (.bool bh1) := row16_cells z0.out 8
  have x0 : w2.cell? ⟨w.heap.size + 1, 8, none⟩ = some (.bool bh1) := row16_cells z1.out 8
  have y1 : w2.cell? ⟨w.heap.size, 9, none⟩ = some (.slice ah1' mh1 ch1') := row16_cells z0.out 9
  have x1 : w2.cell? ⟨w.heap.size + 1, 9, none⟩ = some (.slice ah1 mh1 ch1) := row16_cells z1.out 9
  have y2 : w2.cell? ⟨w.heap.size, 10, none⟩ = some (.bool bh2) := row16_cells z0.out 10
  have x2 : w2.cell? ⟨w.heap.size + 1, 10, none⟩ = some (.bool bh2) := row16_cells z1.out 10
  have y3 : w2.cell? ⟨w.heap.size, 11, none⟩ = some (.slice ah2' mh2 ch2') := row16_cells z0.out 11
  have x3 : w2.cell? ⟨w.heap.size + 1, 11, none⟩ = some (.slice ah2 mh2 ch2) := row16_cells z1.out 11
  go_wp2_with fail
  clear x0 y0 x1 y1 x2 y2 x3 y3
  refine (K2.out _ hE.out).mono ?_
  rintro e w3 ⟨rfl, hE3⟩
  replace z0 := mkHid (hE3.blk z0.out)
  replace z1 := mkHid (hE3.blk z1.out)
  replace hE := mkHid (hE.out.trans hE3)
  clear hE3
  have y0 : w3.cell? ⟨w.heap.size, 12, none⟩ = some (.bool bk1) := row16_cells z0.out 12
  have x0 : w3.cell? ⟨w.heap.size + 1, 12, none⟩ = some (.bool bk1) := row16_cells z1.out 12
  have y1 : w3.cell? ⟨w.heap.size, 13, none⟩ = some (.slice ak1' mk1 ck1') := row16_cells z0.out 13
  have x1 : w3.cell? ⟨w.heap.size + 1, 13, none⟩ = some (.slice ak1 mk1 ck1) := row16_cells z1.out 13
  have y2 : w3.cell? ⟨w.heap.size, 14, none⟩ = some (.bool bk2) := row16_cells z0.out 14
  have x2 : w3.cell? ⟨w.heap.size + 1, 14, none⟩ = some (.bool bk2) := row16_cells z1.out 14
  have y3 : w3.cell? ⟨w.heap.size, 15, none⟩ = some (.slice ak2' mk2 ck2') := row16_cells z0.out 15
  have x3 : w3.cell? ⟨w.heap.size + 1, 15, none⟩ = some (.slice ak2 mk2 ck2) := row16_cells z1.out 15
  go_wp2_with fail
  clear x0 y0 x1 y1 x2 y2 x3 y3
  refine (K3.out _ hE.out).mono ?_
  rintro e w4 ⟨rfl, hE4⟩
  replace z0 := mkHid (hE4.blk z0.out)
  replace z1 := mkHid (hE4.blk z1.out)
  replace hE := mkHid (hE.out.trans hE4)
  clear hE4
  go_wp2_with fail
  go_ret
  exact ⟨rfl, hE.out⟩
end Go.Proofs.YtpmfohhpaoagfaaGreat
namespace Go.Proofs.YtpmfohhpaoagfaaGreat
open Go Go.RowKit Go.Proofs
theorem fr_load {P : Program} {S : World → Value → Prop} {o : Oper} {a : Act} {W : World} {X : Prop} {c : Prop} [Decidable c] (hw : c) (ty : TypeId) (x : Operand) (ho : o.op = .load ty x)
    (g : Nat) (hx : a.eval x = .pointer (some ⟨g, 0, none⟩)) (t : TypeId) (cs : Array Value) (fr : Nat × Nat) (d : TypeDesc) (hg : W.heap[g]? = some (.cells cs t fr))
    (hu : P.underlying ty = some d) (hd : (match d with | .struct _ | .array _ _ => true | _ => false) = true) (hi : (P.info? ty).map (·.size) = some cs.size)
    (h : S W (.agg cs)) : if c then givesV P S ((execOp a.eval o).run P W) else X := by
  rw [if_pos hw]
  unfold execOp
  simp only [ho, hx, Instr.loadAt, Instr.sureAddr, Sem.run_bind, Sem.run_pure, Result.andThen_ok, run_loadVar_row W g t ty cs fr d hg hu hd hi]
  exact h
end Go.Proofs.YtpmfohhpaoagfaaGreat
namespace Go.Proofs.YtpmfohhpaoagfaaGreat
open Go Go.RowKit Go.Proofs
/-- A slice of two numbers. -/
def OSlI (x y : Int) (W : World) (v : Value) : Prop := ∃ g, v = .slice (some ⟨g, 0, none⟩) 2 2 ∧ W.heap[g]? = some (.cells #[.int .i64 x, .int .i64 y] 3 (0, 0))
theorem st_oslI {ss : List FSpec} (x y : Int) (h : StableAll Ext ss) : StableAll Ext (.pred (OSlI x y) :: ss) := ⟨fun _ _ _ e h => by obtain ⟨g, h1, h2⟩ := h; exact ⟨g, h1, e.blk h2⟩, h⟩
theorem st_obyV {ss : List FSpec} (s : Int) (h : StableAll Ext ss) : StableAll Ext (.pred (fun _ v => ByV s v) :: ss) := ⟨fun _ _ _ _ h => h, h⟩
/-- The two Agains answer alike. -/
theorem agains (oa ob oc od oy ou : Option Rat) : ∃ K G : Int,
    (∀ v r W, AnyM W v oa ob oc od → AnyY W r oy ou → Calls Tryz.prog 11 #[v, r] W fun e w' => e = .returned (.tuple #[.int .i64 K, .int .i64 G]) ∧ Ext W w') ∧
    (∀ v r W, AnyM W v oa ob oc od → AnyY W r oy ou → Calls Tryz.prog 12 #[v, r] W fun e w' => e = .returned (.tuple #[.int .i64 K, .int .i64 G]) ∧ Ext W w') := by
  cases hk : okM oa ob oc od with
  | false => exact ⟨0, 1, fun v r W h hr => again_refused v r oa ob oc od oy ou W h hr (.inl hk), fun v r W h hr => ragain_refused v r oa ob oc od oy ou W h hr (.inl hk)⟩
  | true =>
    cases hy : [oy, ou].all Option.isSome with
    | false => exact ⟨0, 1, fun v r W h hr => again_refused v r oa ob oc od oy ou W h hr (.inr hy), fun v r W h hr => ragain_refused v r oa ob oc od oy ou W h hr (.inr hy)⟩
    | true =>
      obtain ⟨a, b, c, d, rfl, rfl, rfl, rfl⟩ := okM_some hk
      have hs := hy
      simp only [List.all_cons, List.all_nil, Bool.and_true, Bool.and_eq_true] at hs
      obtain ⟨i1, i2⟩ := hs
      obtain ⟨y, rfl⟩ := Option.isSome_iff_exists.1 i1
      obtain ⟨u, rfl⟩ := Option.isSome_iff_exists.1 i2
      exact ⟨agM a b c d y u, 0, fun v r W h hr => again_fine v r a b c d y u W h hr hk, fun v r W h hr => ragain_fine v r a b c d y u W h hr hk⟩
set_option maxRecDepth 100000 in
set_option maxHeartbeats 25600000 in
theorem orders_c (v r : Value) (w : World) (h : RawM w v) (hr : RawY w r) :
    Calls Tryz.prog 3 #[v, r] w fun e w' => e = .returned (.bool true) ∧ Ext w w' := by
  obtain ⟨v1, v2, v3, v4, v5, v6, v7, v8, v9, v10, v11, v12, v13, v14, v15, v16, rfl, h1, h2, h3, h4⟩ := h
  obtain ⟨u1, u2, u3, u4, u5, u6, u7, u8, rfl, h5, h6⟩ := hr
  obtain ⟨bf1, af1, cf1, bf2, af2, cf2, lf1, lf2, e1, sf1, sf2, rf1, rf2⟩ := h1
  simp only [Value.agg.injEq, Array.mk.injEq, List.cons.injEq, and_true] at e1
  obtain ⟨rfl, rfl, rfl, rfl⟩ := e1
  obtain ⟨bg1, ag1, cg1, bg2, ag2, cg2, lg1, lg2, e1, sg1, sg2, rg1, rg2⟩ := h2
  simp only [Value.agg.injEq, Array.mk.injEq, List.cons.injEq, and_true] at e1
  obtain ⟨rfl, rfl, rfl, rfl⟩ := e1
  obtain ⟨bh1, ah1, ch1, bh2, ah2, ch2, lh1, lh2, e1, sh1, sh2, rh1, rh2⟩ := h3
  simp only [Value.agg.injEq, Array.mk.injEq, List.cons.injEq, and_true] at e1
  obtain ⟨rfl, rfl, rfl, rfl⟩ := e1
  obtain ⟨bk1, ak1, ck1, bk2, ak2, ck2, lk1, lk2, e1, sk1, sk2, rk1, rk2⟩ := h4
  simp only [Value.agg.injEq, Array.mk.injEq, List.cons.injEq, and_true] at e1
  obtain ⟨rfl, rfl, rfl, rfl⟩ := e1
  obtain ⟨by1, ay1, cy1, by2, ay2, cy2, ly1, ly2, e1, sy1, sy2, ry1, ry2⟩ := h5
  simp only [Value.agg.injEq, Array.mk.injEq, List.cons.injEq, and_true] at e1
  obtain ⟨rfl, rfl, rfl, rfl⟩ := e1
  obtain ⟨bu1, au1, cu1, bu2, au2, cu2, lu1, lu2, e1, su1, su2, ru1, ru2⟩ := h6
  simp only [Value.agg.injEq, Array.mk.injEq, List.cons.injEq, and_true] at e1
  obtain ⟨rfl, rfl, rfl, rfl⟩ := e1
  have kl := mkHid lives_c
  have km := mkHid (fun w => matrixCost_c bf1 af1 lf1.length cf1 bf2 af2 lf2.length cf2 bg1 ag1 lg1.length cg1 bg2 ag2 lg2.length cg2 bh1 ah1 lh1.length ch1 bh2 ah2 lh2.length ch2 bk1 ak1 lk1.length ck1 bk2 ak2 lk2.length ck2 w sf1 sf2 sg1 sg2 sh1 sh2 sk1 sk2)
  have kr := mkHid (fun w => rayCost_c by1 ay1 ly1.length cy1 by2 ay2 ly2.length cy2 bu1 au1 lu1.length cu1 bu2 au2 lu2.length cu2 w sy1 sy2 su1 su2)
  obtain ⟨kf1, kf2, kf3, kf4⟩ := costV_b lf1.length lf2.length sf1 sf2
  obtain ⟨kg1, kg2, kg3, kg4⟩ := costV_b lg1.length lg2.length sg1 sg2
  obtain ⟨kh1, kh2, kh3, kh4⟩ := costV_b lh1.length lh2.length sh1 sh2
  obtain ⟨kk1, kk2, kk3, kk4⟩ := costV_b lk1.length lk2.length sk1 sk2
  obtain ⟨ky1, ky2, ky3, ky4⟩ := costV_b ly1.length ly2.length sy1 sy2
  obtain ⟨ku1, ku2, ku3, ku4⟩ := costV_b lu1.length lu2.length su1 su2
  generalize costV lf1.length lf2.length = Cf at *
  generalize costV lg1.length lg2.length = Cg at *
  generalize costV lh1.length lh2.length = Ch at *
  generalize costV lk1.length lk2.length = Ck at *
  generalize costV ly1.length ly2.length = Cy at *
  generalize costV lu1.length lu2.length = Cu at *
  obtain ⟨CM, hCM⟩ : ∃ C : Int, C = Cf + Cg + Ch + Ck := ⟨_, rfl⟩
  obtain ⟨CR, hCR⟩ : ∃ C : Int, C = Cy + Cu := ⟨_, rfl⟩
  rw [← hCM] at km
  rw [← hCR] at kr
  have kb := mkHid (fun g w h h' => beyond2_c g 2 CM CR w (by omega) (by omega) (by omega) (by omega) h h')
  have small : CM + CR ≤ 1048576 → (lf1.length ≤ 4294967296 ∧ lf2.length ≤ 4294967296 ∧ lg1.length ≤ 4294967296 ∧ lg2.length ≤ 4294967296 ∧ lh1.length ≤ 4294967296 ∧ lh2.length ≤ 4294967296 ∧ lk1.length ≤ 4294967296 ∧ lk2.length ≤ 4294967296 ∧ ly1.length ≤ 4294967296 ∧ ly2.length ≤ 4294967296 ∧ lu1.length ≤ 4294967296 ∧ lu2.length ≤ 4294967296) := by omega
  replace small := mkHid small
  replace rf1 := mkHid rf1
  replace rf2 := mkHid rf2
  replace rg1 := mkHid rg1
  replace rg2 := mkHid rg2
  replace rh1 := mkHid rh1
  replace rh2 := mkHid rh2
  replace rk1 := mkHid rk1
  replace rk2 := mkHid rk2
  replace ry1 := mkHid ry1
  replace ry2 := mkHid ry2
  replace ru1 := mkHid ru1
  replace ru2 := mkHid ru2
  clear hCM hCR kf1 kf2 kf3 kf4 kg1 kg2 kg3 kg4 kh1 kh2 kh3 kh4 kk1 kk2 kk3 kk4 ky1 ky2 ky3 ky4 ku1 ku2 ku3 ku4 sf1 sf2 sg1 sg2 sh1 sh2 sk1 sk2 sy1 sy2 su1 su2
  have hE := mkHid (Ext.refl w)
  go_enter Tryz.func3, Tryz.ntmps3
  obtain ⟨w1, hw1⟩ : ∃ w1, w1 = (w.alloc (.cells #[.bool bf1, .slice af1 lf1.length cf1, .bool bf2, .slice af2 lf2.length cf2, .bool bg1, .slice ag1 lg1.length cg1, .bool bg2, .slice ag2 lg2.length cg2, .bool bh1, .slice ah1 lh1.length ch1, .bool bh2, .slice ah2 lh2.length ch2, .bool bk1, .slice ak1 lk1.length ck1, .bool bk2, .slice ak2 lk2.length ck2] 28)).alloc (.cells #[.bool by1, .slice ay1 ly1.length cy1, .bool by2, .slice ay2 ly2.length cy2, .bool bu1, .slice au1 lu1.length cu1, .bool bu2, .slice au2 lu2.length cu2] 30) := ⟨_, rfl⟩
  have hx : Ext w w1 := by rw [hw1]; exact (((Ext.refl w).al _).al _)
  have zM : w1.heap[w.heap.size]? = some (.cells #[.bool bf1, .slice af1 lf1.length cf1, .bool bf2, .slice af2 lf2.length cf2, .bool bg1, .slice ag1 lg1.length cg1, .bool bg2, .slice ag2 lg2.length cg2, .bool bh1, .slice ah1 lh1.length ch1, .bool bh2, .slice ah2 lh2.length ch2, .bool bk1, .slice ak1 lk1.length ck1, .bool bk2, .slice ak2 lk2.length ck2] 28 (0, 0)) := by rw [hw1]; exact (heap_alloc_old _ _ (by simp)).trans (heap_alloc_new _ _)
  have zR : w1.heap[w.heap.size + 1]? = some (.cells #[.bool by1, .slice ay1 ly1.length cy1, .bool by2, .slice ay2 ly2.length cy2, .bool bu1, .slice au1 lu1.length cu1, .bool bu2, .slice au2 lu2.length cu2] 30 (0, 0)) := by rw [hw1]; exact heap_at _ _ _ (by simp)
  obtain ⟨g2, hg2⟩ : ∃ g2, g2 = w.heap.size := ⟨_, rfl⟩
  rw [← hg2] at zM zR
  go_wp2_with fail
  rw [← hg2, ← hw1]
  clear hg2 hw1
  replace hE := mkHid (hE.out.trans hx)
  clear hx
  replace zM := mkHid zM
  replace zR := mkHid zR
  apply region_ext [.val (.agg #[.bool bf1, .slice af1 lf1.length cf1, .bool bf2, .slice af2 lf2.length cf2, .bool bg1, .slice ag1 lg1.length cg1, .bool bg2, .slice ag2 lg2.length cg2, .bool bh1, .slice ah1 lh1.length ch1, .bool bh2, .slice ah2 lh2.length ch2, .bool bk1, .slice ak1 lk1.length ck1, .bool bk2, .slice ak2 lk2.length ck2]), .val (.int .i64 CM), .val (.agg #[.bool by1, .slice ay1 ly1.length cy1, .bool by2, .slice ay2 ly2.length cy2, .bool bu1, .slice au1 lu1.length cu1, .bool bu2, .slice au2 lu2.length cu2]), .val (.int .i64 CR), .pred (OSlI CM CR), .pred (fun _ v => ByV (CM + CR) v)] (by kernel_rfl) (stable_vals _ (stable_vals _ (stable_vals _ (stable_vals _ (st_oslI _ _ (st_obyV _ trivial))))))
  refine ⟨fun W hW _ => fr_load rfl 28 (.tmp 2) rfl (g2) rfl 28 #[.bool bf1, .slice af1 lf1.length cf1, .bool bf2, .slice af2 lf2.length cf2, .bool bg1, .slice ag1 lg1.length cg1, .bool bg2, .slice ag2 lg2.length cg2, .bool bh1, .slice ah1 lh1.length ch1, .bool bh2, .slice ah2 lh2.length ch2, .bool bk1, .slice ak1 lk1.length ck1, .bool bk2, .slice ak2 lk2.length ck2] (0, 0) _ (hW.blk zM.out) Tryz.underlying28 rfl (by kernel_rfl) ⟨Ext.refl _, rfl⟩, ?_⟩
  refine ⟨fun W hW _ => ?b1, ?_⟩
  case b1 =>
    go_simp
    refine (km.out W).mono ?_
    rintro e w' ⟨rfl, h1⟩
    exact ⟨rfl, h1⟩
  refine ⟨fun W hW _ => fr_load rfl 30 (.tmp 3) rfl (g2 + 1) rfl 30 #[.bool by1, .slice ay1 ly1.length cy1, .bool by2, .slice ay2 ly2.length cy2, .bool bu1, .slice au1 lu1.length cu1, .bool bu2, .slice au2 lu2.length cu2] (0, 0) _ (hW.blk zR.out) Tryz.underlying30 rfl (by kernel_rfl) ⟨Ext.refl _, rfl⟩, ?_⟩
  refine ⟨fun W hW _ => ?b3, ?_⟩
  case b3 =>
    go_simp
    refine (kr.out W).mono ?_
    rintro e w' ⟨rfl, h1⟩
    exact ⟨rfl, h1⟩
  refine ⟨fun W hW _ => ?b4, fun x4 => ⟨fun W hW hF => ?b5, fun x5 => ?_⟩⟩
  case b4 =>
    have hs := mkHid ((Ext.refl W).al (.cells #[.int .i64 CM, .int .i64 CR] 3))
    have hsl := mkHid (show OSlI CM CR (W.alloc (.cells #[.int .i64 CM, .int .i64 CR] 3)) (.slice (some ⟨W.heap.size, 0, none⟩) 2 2) from ⟨_, rfl, heap_alloc_new _ _⟩)
    go_simp
    exact ⟨hs.out, hsl.out⟩
  case b5 =>
    have dd : OSlI CM CR W x4 := hF.1 (by kernel_rfl)
    obtain ⟨g, rfl, hg⟩ := dd
    clear hF
    go_simp
    refine (kb.out g W (by simp [World.cell?, hg]) (by simp [World.cell?, hg])).mono ?_
    rintro e w' ⟨v, rfl, e1, e2⟩
    exact ⟨v, rfl, e1, e2⟩
  intro W1 hW hF
  have hB : ByV (CM + CR) x5 := hF.1 rfl
  obtain ⟨rb, rfl, hB⟩ := hB
  clear hF km kr kb
  replace zM := mkHid (hW.blk zM.out)
  replace zR := mkHid (hW.blk zR.out)
  replace hE := mkHid (hE.out.trans hW)
  clear hW
  go_simp
  cases rb with
  | true =>
    clear hB
    go_wp2_with fail
    go_ret
    exact ⟨rfl, hE.out⟩
  | false =>
    obtain ⟨mf1, mf2, mg1, mg2, mh1, mh2, mk1, mk2, my1, my2, mu1, mu2⟩ := small.out (hB rfl)
    clear hB small
    have Lf := mkHid (show AnyL w (.agg #[.bool bf1, .slice af1 lf1.length cf1, .bool bf2, .slice af2 lf2.length cf2]) bf1 lf1 bf2 lf2 from ⟨_, _, _, _, rfl, mf1, mf2, rf1.out, rf2.out⟩)
    have Lg := mkHid (show AnyL w (.agg #[.bool bg1, .slice ag1 lg1.length cg1, .bool bg2, .slice ag2 lg2.length cg2]) bg1 lg1 bg2 lg2 from ⟨_, _, _, _, rfl, mg1, mg2, rg1.out, rg2.out⟩)
    have Lh := mkHid (show AnyL w (.agg #[.bool bh1, .slice ah1 lh1.length ch1, .bool bh2, .slice ah2 lh2.length ch2]) bh1 lh1 bh2 lh2 from ⟨_, _, _, _, rfl, mh1, mh2, rh1.out, rh2.out⟩)
    have Lk := mkHid (show AnyL w (.agg #[.bool bk1, .slice ak1 lk1.length ck1, .bool bk2, .slice ak2 lk2.length ck2]) bk1 lk1 bk2 lk2 from ⟨_, _, _, _, rfl, mk1, mk2, rk1.out, rk2.out⟩)
    have Ly := mkHid (show AnyL w (.agg #[.bool by1, .slice ay1 ly1.length cy1, .bool by2, .slice ay2 ly2.length cy2]) by1 ly1 by2 ly2 from ⟨_, _, _, _, rfl, my1, my2, ry1.out, ry2.out⟩)
    have Lu := mkHid (show AnyL w (.agg #[.bool bu1, .slice au1 lu1.length cu1, .bool bu2, .slice au2 lu2.length cu2]) bu1 lu1 bu2 lu2 from ⟨_, _, _, _, rfl, mu1, mu2, ru1.out, ru2.out⟩)
    replace mf1 := mkHid mf1
    replace mf2 := mkHid mf2
    replace mg1 := mkHid mg1
    replace mg2 := mkHid mg2
    replace mh1 := mkHid mh1
    replace mh2 := mkHid mh2
    replace mk1 := mkHid mk1
    replace mk2 := mkHid mk2
    replace my1 := mkHid my1
    replace my2 := mkHid my2
    replace mu1 := mkHid mu1
    replace mu2 := mkHid mu2
    clear rf1 rf2 rg1 rg2 rh1 rh2 rk1 rk2 ry1 ry2 ru1 ru2
    obtain ⟨of, hof⟩ : ∃ o, o = ratF bf1 lf1 bf2 lf2 := ⟨_, rfl⟩
    replace hof := mkHid hof
    obtain ⟨og, hog⟩ : ∃ o, o = ratF bg1 lg1 bg2 lg2 := ⟨_, rfl⟩
    replace hog := mkHid hog
    obtain ⟨oh, hoh⟩ : ∃ o, o = ratF bh1 lh1 bh2 lh2 := ⟨_, rfl⟩
    replace hoh := mkHid hoh
    obtain ⟨ok, hok⟩ : ∃ o, o = ratF bk1 lk1 bk2 lk2 := ⟨_, rfl⟩
    replace hok := mkHid hok
    obtain ⟨oy, hoy⟩ : ∃ o, o = ratF by1 ly1 by2 ly2 := ⟨_, rfl⟩
    replace hoy := mkHid hoy
    obtain ⟨ou, hou⟩ : ∃ o, o = ratF bu1 lu1 bu2 lu2 := ⟨_, rfl⟩
    replace hou := mkHid hou
    have AM := mkHid (fun W (e : Ext w W) => (show AnyM W (.agg #[.bool bf1, .slice af1 lf1.length cf1, .bool bf2, .slice af2 lf2.length cf2, .bool bg1, .slice ag1 lg1.length cg1, .bool bg2, .slice ag2 lg2.length cg2, .bool bh1, .slice ah1 lh1.length ch1, .bool bh2, .slice ah2 lh2.length ch2, .bool bk1, .slice ak1 lk1.length ck1, .bool bk2, .slice ak2 lk2.length ck2]) of og oh ok from ⟨_, _, _, _, _, _, _, _, _, _, _, _, _, _, _, _, _, _, _, _, _, _, _, _, _, _, _, _, _, _, _, _, rfl, ⟨_, _, _, _, Lf.out.ext e, hof.out⟩, ⟨_, _, _, _, Lg.out.ext e, hog.out⟩, ⟨_, _, _, _, Lh.out.ext e, hoh.out⟩, ⟨_, _, _, _, Lk.out.ext e, hok.out⟩⟩))
    have AY := mkHid (fun W (e : Ext w W) => (show AnyY W (.agg #[.bool by1, .slice ay1 ly1.length cy1, .bool by2, .slice ay2 ly2.length cy2, .bool bu1, .slice au1 lu1.length cu1, .bool bu2, .slice au2 lu2.length cu2]) oy ou from ⟨_, _, _, _, _, _, _, _, _, _, _, _, _, _, _, _, rfl, ⟨_, _, _, _, Ly.out.ext e, hoy.out⟩, ⟨_, _, _, _, Lu.out.ext e, hou.out⟩⟩))
    have TM := mkHid (fun W (e : Ext w W) => twinMatrix_c bf1 lf1 bf2 lf2 bg1 lg1 bg2 lg2 bh1 lh1 bh2 lh2 bk1 lk1 bk2 lk2 _ _ _ _ _ _ _ _ _ _ _ _ _ _ _ _ _ _ _ _ _ _ _ _ W (Lf.out.ext e) (Lg.out.ext e) (Lh.out.ext e) (Lk.out.ext e))
    have TY := mkHid (fun W (e : Ext w W) => twinRay_c by1 ly1 by2 ly2 bu1 lu1 bu2 lu2 _ _ _ _ _ _ _ _ _ _ _ _ W (Ly.out.ext e) (Lu.out.ext e))
    obtain ⟨K, G, ka, kra⟩ := agains of og oh ok oy ou
    replace ka := mkHid ka
    replace kra := mkHid kra
    have ko := mkHid (fun v W h => order_c v of og oh ok W h)
    have kro := mkHid (fun v W h => rorderO_c v of og oh ok W h)
    generalize ordO of og oh ok = O at *
    generalize ordE of og oh ok = E at *
    go_wp2_with (first
        | (refine wpList_load_row rfl 28 (.tmp 2) rfl (g2) rfl 28 #[.bool bf1, .slice af1 lf1.length cf1, .bool bf2, .slice af2 lf2.length cf2, .bool bg1, .slice ag1 lg1.length cg1, .bool bg2, .slice ag2 lg2.length cg2, .bool bh1, .slice ah1 lh1.length ch1, .bool bh2, .slice ah2 lh2.length ch2, .bool bk1, .slice ak1 lk1.length ck1, .bool bk2, .slice ak2 lk2.length ck2] (0, 0) _ (zM.out) Tryz.underlying28 rfl (by kernel_rfl) ?_))
    refine (TM.out W1 hE.out).mono ?_
    rintro e w2 ⟨v5, rfl, hT, hE2⟩
    obtain ⟨pf1, qf1, pf2, qf2, pg1, qg1, pg2, qg2, ph1, qh1, ph2, qh2, pk1, qk1, pk2, qk2, rfl, tf, tg, th, tk⟩ := hT
    have zM2 := hE2.blk zM.out
    have zR2 := hE2.blk zR.out
    have lM2 := (Array.getElem?_eq_some_iff.1 zM2).1
    have lR2 := (Array.getElem?_eq_some_iff.1 zR2).1
    obtain ⟨w3, hw3⟩ : ∃ w3, w3 = (w2.alloc (.cells #[.bool false, .slice none 0 0, .bool false, .slice none 0 0, .bool false, .slice none 0 0, .bool false, .slice none 0 0, .bool false, .slice none 0 0, .bool false, .slice none 0 0, .bool false, .slice none 0 0, .bool false, .slice none 0 0] 28)).setRow w2.heap.size #[.bool bf1, .slice pf1 lf1.length qf1, .bool bf2, .slice pf2 lf2.length qf2, .bool bg1, .slice pg1 lg1.length qg1, .bool bg2, .slice pg2 lg2.length qg2, .bool bh1, .slice ph1 lh1.length qh1, .bool bh2, .slice ph2 lh2.length qh2, .bool bk1, .slice pk1 lk1.length qk1, .bool bk2, .slice pk2 lk2.length qk2] := ⟨_, rfl⟩
    have hE3 : Ext w2 w3 := by rw [hw3]; exact ((Ext.refl w2).al _).row (Nat.le_refl _) _
    have z5 : w3.heap[w2.heap.size]? = some (.cells #[.bool bf1, .slice pf1 lf1.length qf1, .bool bf2, .slice pf2 lf2.length qf2, .bool bg1, .slice pg1 lg1.length qg1, .bool bg2, .slice pg2 lg2.length qg2, .bool bh1, .slice ph1 lh1.length qh1, .bool bh2, .slice ph2 lh2.length qh2, .bool bk1, .slice pk1 lk1.length qk1, .bool bk2, .slice pk2 lk2.length qk2] 28 (0, 0)) := by rw [hw3]; exact setRow_heap _ _ _ _ _ _ (heap_alloc_new _ _)
    replace zM := mkHid (hE3.blk zM2)
    replace zR := mkHid (hE3.blk zR2)
    replace hE := mkHid (hE.out.trans (hE2.trans hE3))
    replace tf := mkHid (tf.ext hE3)
    replace tg := mkHid (tg.ext hE3)
    replace th := mkHid (th.ext hE3)
    replace tk := mkHid (tk.ext hE3)
    have zRs := zR.out
    rw [hw3] at zRs
    replace zRs := mkHid zRs
    obtain ⟨g5, hg5⟩ : ∃ g5, g5 = w2.heap.size := ⟨_, rfl⟩
    rw [← hg5] at z5
    replace z5 := mkHid z5
    replace hw3 := mkHid hw3
    replace hg5 := mkHid hg5
    clear hE2 hE3 zM2 zR2 lM2 lR2 TM
    go_wp2_with (first
        | (refine wpList_store_row rfl 28 (.tmp 5) (.tmp 22) rfl (w2.heap.size) #[.bool bf1, .slice pf1 lf1.length qf1, .bool bf2, .slice pf2 lf2.length qf2, .bool bg1, .slice pg1 lg1.length qg1, .bool bg2, .slice pg2 lg2.length qg2, .bool bh1, .slice ph1 lh1.length qh1, .bool bh2, .slice ph2 lh2.length qh2, .bool bk1, .slice pk1 lk1.length qk1, .bool bk2, .slice pk2 lk2.length qk2] rfl rfl 28 _ (heap_alloc_new _ _) (by kernel_rfl) rfl (by kernel_rfl) ?_)
        | (refine wpList_load_row rfl 30 (.tmp 3) rfl (g2 + 1) rfl 30 #[.bool by1, .slice ay1 ly1.length cy1, .bool by2, .slice ay2 ly2.length cy2, .bool bu1, .slice au1 lu1.length cu1, .bool bu2, .slice au2 lu2.length cu2] (0, 0) _ (zRs.out) Tryz.underlying30 rfl (by kernel_rfl) ?_))
    rw [← hw3.out, ← hg5.out]
    clear hw3 hg5 zRs
    refine (TY.out w3 hE.out).mono ?_
    rintro e w4 ⟨v6, rfl, hT, hE4⟩
    obtain ⟨py1, qy1, py2, qy2, pu1, qu1, pu2, qu2, rfl, ty, tu⟩ := hT
    obtain ⟨w5, hw5⟩ : ∃ w5, w5 = (w4.alloc (.cells #[.bool false, .slice none 0 0, .bool false, .slice none 0 0, .bool false, .slice none 0 0, .bool false, .slice none 0 0] 30)).setRow w4.heap.size #[.bool by1, .slice py1 ly1.length qy1, .bool by2, .slice py2 ly2.length qy2, .bool bu1, .slice pu1 lu1.length qu1, .bool bu2, .slice pu2 lu2.length qu2] := ⟨_, rfl⟩
    have hE5 : Ext w4 w5 := by rw [hw5]; exact ((Ext.refl w4).al _).row (Nat.le_refl _) _
    have z6 : w5.heap[w4.heap.size]? = some (.cells #[.bool by1, .slice py1 ly1.length qy1, .bool by2, .slice py2 ly2.length qy2, .bool bu1, .slice pu1 lu1.length qu1, .bool bu2, .slice pu2 lu2.length qu2] 30 (0, 0)) := by rw [hw5]; exact setRow_heap _ _ _ _ _ _ (heap_alloc_new _ _)
    have hE45 := hE4.trans hE5
    replace zM := mkHid (hE45.blk zM.out)
    replace zR := mkHid (hE45.blk zR.out)
    replace z5 := mkHid (hE45.blk z5.out)
    replace hE := mkHid (hE.out.trans hE45)
    replace tf := mkHid (tf.out.ext hE45)
    replace tg := mkHid (tg.out.ext hE45)
    replace th := mkHid (th.out.ext hE45)
    replace tk := mkHid (tk.out.ext hE45)
    replace ty := mkHid (ty.ext hE5)
    replace tu := mkHid (tu.ext hE5)
    have z5s := z5.out
    rw [hw5] at z5s
    replace z5s := mkHid z5s
    obtain ⟨g6, hg6⟩ : ∃ g6, g6 = w4.heap.size := ⟨_, rfl⟩
    rw [← hg6] at z6
    replace z6 := mkHid z6
    replace hw5 := mkHid hw5
    replace hg6 := mkHid hg6
    clear hE4 hE5 hE45 TY
    have AM5 := mkHid (fun W (e : Ext w5 W) => (show AnyM W (.agg #[.bool bf1, .slice pf1 lf1.length qf1, .bool bf2, .slice pf2 lf2.length qf2, .bool bg1, .slice pg1 lg1.length qg1, .bool bg2, .slice pg2 lg2.length qg2, .bool bh1, .slice ph1 lh1.length qh1, .bool bh2, .slice ph2 lh2.length qh2, .bool bk1, .slice pk1 lk1.length qk1, .bool bk2, .slice pk2 lk2.length qk2]) of og oh ok from ⟨_, _, _, _, _, _, _, _, _, _, _, _, _, _, _, _, _, _, _, _, _, _, _, _, _, _, _, _, _, _, _, _, rfl, ⟨_, _, _, _, (tf.out.ext e).any mf1.out mf2.out, hof.out⟩, ⟨_, _, _, _, (tg.out.ext e).any mg1.out mg2.out, hog.out⟩, ⟨_, _, _, _, (th.out.ext e).any mh1.out mh2.out, hoh.out⟩, ⟨_, _, _, _, (tk.out.ext e).any mk1.out mk2.out, hok.out⟩⟩))
    have AY6 := mkHid (fun W (e : Ext w5 W) => (show AnyY W (.agg #[.bool by1, .slice py1 ly1.length qy1, .bool by2, .slice py2 ly2.length qy2, .bool bu1, .slice pu1 lu1.length qu1, .bool bu2, .slice pu2 lu2.length qu2]) oy ou from ⟨_, _, _, _, _, _, _, _, _, _, _, _, _, _, _, _, rfl, ⟨_, _, _, _, (ty.out.ext e).any my1.out my2.out, hoy.out⟩, ⟨_, _, _, _, (tu.out.ext e).any mu1.out mu2.out, hou.out⟩⟩))
    have hE0 := mkHid (Ext.refl w5)
    go_wp2_with (first
        | (refine wpList_store_row rfl 30 (.tmp 6) (.tmp 24) rfl (w4.heap.size) #[.bool by1, .slice py1 ly1.length qy1, .bool by2, .slice py2 ly2.length qy2, .bool bu1, .slice pu1 lu1.length qu1, .bool bu2, .slice pu2 lu2.length qu2] rfl rfl 30 _ (heap_alloc_new _ _) (by kernel_rfl) rfl (by kernel_rfl) ?_)
        | (refine wpList_load_row rfl 28 (.tmp 5) rfl (g5) rfl 28 #[.bool bf1, .slice pf1 lf1.length qf1, .bool bf2, .slice pf2 lf2.length qf2, .bool bg1, .slice pg1 lg1.length qg1, .bool bg2, .slice pg2 lg2.length qg2, .bool bh1, .slice ph1 lh1.length qh1, .bool bh2, .slice ph2 lh2.length qh2, .bool bk1, .slice pk1 lk1.length qk1, .bool bk2, .slice pk2 lk2.length qk2] (0, 0) _ (z5s.out) Tryz.underlying28 rfl (by kernel_rfl) ?_))
    rw [← hw5.out, ← hg6.out]
    clear hw5 hg6 z5s
    refine (ko.out _ w5 (AM5.out w5 (Ext.refl _))).mono ?_
    rintro e w6 ⟨rfl, hX⟩
    replace zM := mkHid (hX.blk zM.out)
    replace zR := mkHid (hX.blk zR.out)
    replace z5 := mkHid (hX.blk z5.out)
    replace z6 := mkHid (hX.blk z6.out)
    replace hE := mkHid (hE.out.trans hX)
    replace hE0 := mkHid (hE0.out.trans hX)
    clear hX
    go_wp2_with (first
        | (refine wpList_load_row rfl 28 (.tmp 2) rfl (g2) rfl 28 #[.bool bf1, .slice af1 lf1.length cf1, .bool bf2, .slice af2 lf2.length cf2, .bool bg1, .slice ag1 lg1.length cg1, .bool bg2, .slice ag2 lg2.length cg2, .bool bh1, .slice ah1 lh1.length ch1, .bool bh2, .slice ah2 lh2.length ch2, .bool bk1, .slice ak1 lk1.length ck1, .bool bk2, .slice ak2 lk2.length ck2] (0, 0) _ (zM.out) Tryz.underlying28 rfl (by kernel_rfl) ?_))
    refine (kro.out _ w6 (AM.out w6 hE.out)).mono ?_
    rintro e w7 ⟨rfl, hX⟩
    replace zM := mkHid (hX.blk zM.out)
    replace zR := mkHid (hX.blk zR.out)
    replace z5 := mkHid (hX.blk z5.out)
    replace z6 := mkHid (hX.blk z6.out)
    replace hE := mkHid (hE.out.trans hX)
    replace hE0 := mkHid (hE0.out.trans hX)
    clear hX
    go_wp2_with (first
        | (refine wpList_load_row rfl 28 (.tmp 5) rfl (g5) rfl 28 #[.bool bf1, .slice pf1 lf1.length qf1, .bool bf2, .slice pf2 lf2.length qf2, .bool bg1, .slice pg1 lg1.length qg1, .bool bg2, .slice pg2 lg2.length qg2, .bool bh1, .slice ph1 lh1.length qh1, .bool bh2, .slice ph2 lh2.length qh2, .bool bk1, .slice pk1 lk1.length qk1, .bool bk2, .slice pk2 lk2.length qk2] (0, 0) _ (z5.out) Tryz.underlying28 rfl (by kernel_rfl) ?_)
        | (refine wpList_load_row rfl 30 (.tmp 6) rfl (g6) rfl 30 #[.bool by1, .slice py1 ly1.length qy1, .bool by2, .slice py2 ly2.length qy2, .bool bu1, .slice pu1 lu1.length qu1, .bool bu2, .slice pu2 lu2.length qu2] (0, 0) _ (z6.out) Tryz.underlying30 rfl (by kernel_rfl) ?_))
    refine (ka.out _ _ w7 (AM5.out w7 hE0.out) (AY6.out w7 hE0.out)).mono ?_
    rintro e w8 ⟨rfl, hX⟩
    replace zM := mkHid (hX.blk zM.out)
    replace zR := mkHid (hX.blk zR.out)
    replace z5 := mkHid (hX.blk z5.out)
    replace z6 := mkHid (hX.blk z6.out)
    replace hE := mkHid (hE.out.trans hX)
    replace hE0 := mkHid (hE0.out.trans hX)
    clear hX
    go_wp2_with (first
        | (refine wpList_load_row rfl 28 (.tmp 2) rfl (g2) rfl 28 #[.bool bf1, .slice af1 lf1.length cf1, .bool bf2, .slice af2 lf2.length cf2, .bool bg1, .slice ag1 lg1.length cg1, .bool bg2, .slice ag2 lg2.length cg2, .bool bh1, .slice ah1 lh1.length ch1, .bool bh2, .slice ah2 lh2.length ch2, .bool bk1, .slice ak1 lk1.length ck1, .bool bk2, .slice ak2 lk2.length ck2] (0, 0) _ (zM.out) Tryz.underlying28 rfl (by kernel_rfl) ?_)
        | (refine wpList_load_row rfl 30 (.tmp 3) rfl (g2 + 1) rfl 30 #[.bool by1, .slice ay1 ly1.length cy1, .bool by2, .slice ay2 ly2.length cy2, .bool bu1, .slice au1 lu1.length cu1, .bool bu2, .slice au2 lu2.length cu2] (0, 0) _ (zR.out) Tryz.underlying30 rfl (by kernel_rfl) ?_))
    refine (kra.out _ _ w8 (AM.out w8 hE.out) (AY.out w8 hE.out)).mono ?_
    rintro e w9 ⟨rfl, hX⟩
    replace zM := mkHid (hX.blk zM.out)
    replace zR := mkHid (hX.blk zR.out)
    replace z5 := mkHid (hX.blk z5.out)
    replace z6 := mkHid (hX.blk z6.out)
    replace hE := mkHid (hE.out.trans hX)
    replace hE0 := mkHid (hE0.out.trans hX)
    clear hX
    have LM := mkHid (leftMatrix_c bf1 lf1 bf2 lf2 bg1 lg1 bg2 lg2 bh1 lh1 bh2 lh2 bk1 lk1 bk2 lk2 _ _ _ _ _ _ _ _ _ _ _ _ _ _ _ _ _ _ _ _ _ _ _ _ _ _ _ _ _ _ _ _ _ _ _ _ _ _ _ _ w9 mf1.out mf2.out mg1.out mg2.out mh1.out mh2.out mk1.out mk2.out (tf.out.ext hE0.out) (tg.out.ext hE0.out) (th.out.ext hE0.out) (tk.out.ext hE0.out) (Lf.out.ext hE.out) (Lg.out.ext hE.out) (Lh.out.ext hE.out) (Lk.out.ext hE.out))
    have LY := mkHid (fun W (e : Ext w9 W) => leftRay_c by1 ly1 by2 ly2 bu1 lu1 bu2 lu2 _ _ _ _ _ _ _ _ _ _ _ _ _ _ _ _ _ _ _ _ W my1.out my2.out mu1.out mu2.out (ty.out.ext (hE0.out.trans e)) (tu.out.ext (hE0.out.trans e)) (Ly.out.ext (hE.out.trans e)) (Lu.out.ext (hE.out.trans e)))
    clear AM AY AM5 AY6 ka kra ko kro hE0 tf tg th tk ty tu Lf Lg Lh Lk Ly Lu mf1 mf2 mg1 mg2 mh1 mh2 mk1 mk2 my1 my2 mu1 mu2 hof hog hoh hok hoy hou
    go_wp2_with (first
        | (refine wpList_load_rowG rfl 28 (.tmp 5) rfl (g5) rfl 28 #[.bool bf1, .slice pf1 lf1.length qf1, .bool bf2, .slice pf2 lf2.length qf2, .bool bg1, .slice pg1 lg1.length qg1, .bool bg2, .slice pg2 lg2.length qg2, .bool bh1, .slice ph1 lh1.length qh1, .bool bh2, .slice ph2 lh2.length qh2, .bool bk1, .slice pk1 lk1.length qk1, .bool bk2, .slice pk2 lk2.length qk2] (0, 0) _ (z5.out) Tryz.underlying28 rfl (by kernel_rfl) ?_)
        | (refine wpList_load_rowG rfl 28 (.tmp 2) rfl (g2) rfl 28 #[.bool bf1, .slice af1 lf1.length cf1, .bool bf2, .slice af2 lf2.length cf2, .bool bg1, .slice ag1 lg1.length cg1, .bool bg2, .slice ag2 lg2.length cg2, .bool bh1, .slice ah1 lh1.length ch1, .bool bh2, .slice ah2 lh2.length ch2, .bool bk1, .slice ak1 lk1.length ck1, .bool bk2, .slice ak2 lk2.length ck2] (0, 0) _ (zM.out) Tryz.underlying28 rfl (by kernel_rfl) ?_))
    refine LM.out.mono ?_
    rintro e w10 ⟨rfl, hX⟩
    replace zM := mkHid (hX.blk zM.out)
    replace zR := mkHid (hX.blk zR.out)
    replace z6 := mkHid (hX.blk z6.out)
    replace hE := mkHid (hE.out.trans hX)
    have hX1 := mkHid hX
    clear hX LM
    go_wp2_with (first
        | (refine wpList_load_rowG rfl 30 (.tmp 6) rfl (g6) rfl 30 #[.bool by1, .slice py1 ly1.length qy1, .bool by2, .slice py2 ly2.length qy2, .bool bu1, .slice pu1 lu1.length qu1, .bool bu2, .slice pu2 lu2.length qu2] (0, 0) _ (z6.out) Tryz.underlying30 rfl (by kernel_rfl) ?_)
        | (refine wpList_load_rowG rfl 30 (.tmp 3) rfl (g2 + 1) rfl 30 #[.bool by1, .slice ay1 ly1.length cy1, .bool by2, .slice ay2 ly2.length cy2, .bool bu1, .slice au1 lu1.length cu1, .bool bu2, .slice au2 lu2.length cu2] (0, 0) _ (zR.out) Tryz.underlying30 rfl (by kernel_rfl) ?_))
    refine (LY.out w10 hX1.out).mono ?_
    rintro e w11 ⟨rfl, hX⟩
    replace hE := mkHid (hE.out.trans hX)
    clear hX LY hX1
    go_wp2_with fail
    refine (kl.out w11).mono ?_
    rintro e w12 ⟨rfl, hX⟩
    replace hE := mkHid (hE.out.trans hX)
    clear hX
    go_wp2_with fail
    go_ret
    exact ⟨rfl, hE.out⟩
end Go.Proofs.YtpmfohhpaoagfaaGreat
namespace Go.Proofs.YtpmfohhpaoagfaaGreat
open Go Go.ChangeShapes Go.WideShapes Go.ChangeAt Go.RowKit Go.Joins Go.Deep
theorem ownKnobPeriodOrders : ownKnob Tryz.prog.godebug = none := by kernel_rfl
set_option maxRecDepth 100000 in
theorem orders_lifted (os : Os) (started : os.Started) (H : Type) (enc : TypeId × Value → H) :
    ReturnsInHanded {} Tryz.checked os 3 .any (Rows.periodOrdersSpec.pre6 enc Tryz.prog Tryz.f3 [] false)
      (Rows.periodOrdersSpec.post enc Tryz.prog Tryz.f3 false true false false) := by
  refine returnsInHanded_of_change_sized (C := Tryz.checked) ownKnobPeriodOrders started (by kernel_rfl) Tryz.func3
    (ChangeSpec.witness6 (enc := enc) (C := Tryz.checked) false ⟨#[], #[.agg #[.bool false, .slice none 0 0, .bool false, .slice none 0 0, .bool false, .slice none 0 0, .bool false, .slice none 0 0, .bool false, .slice none 0 0, .bool false, .slice none 0 0, .bool false, .slice none 0 0, .bool false, .slice none 0 0], .agg #[.bool false, .slice none 0 0, .bool false, .slice none 0 0, .bool false, .slice none 0 0, .bool false, .slice none 0 0]], []⟩ 8 (by kernel_rfl) (by kernel_rfl) (by kernel_rfl) (by kernel_rfl)) ?_
  intro W base args ds gs before hval0 hW _ hsz _
  have hW' := hW
  obtain ⟨p, q, hA0, hV, rfl, hfz, hnd⟩ := hW
  have hA : DataW.TrodAll enc Tryz.prog W 0 (fun _ => true) true Tryz.f3.params.toList args.toList ds p := hA0
  rw [Tryz.params3] at hA
  obtain ⟨v0, v1, d0, d1, p0, p1, rfl, rfl, rfl, h0, h1⟩ := trodAll_two hA
  obtain ⟨rfl, rfl⟩ := trodVars_none hV
  have P3 : Tryz.f3.params = #[28, 30] := Tryz.params3
  have hw0 : ∀ k ∈ d0.weights Tryz.prog 28, k ≤ reachBytes := by
    intro k hk
    have hz := List.all_eq_true.1 hsz
    rw [P3] at hz
    exact of_decide_eq_true (hz k (DataW.weights_mem_each (j := 0) (t := 28) (d := d0) rfl rfl k hk))
  have hR0 : RawM W v0 := rawM_of (hval0 0 28 v0 (by rw [P3]; rfl) rfl) h0 hw0
  have hlt0 : ∀ x ∈ p0, x.block < W.heap.size := fun x hx => hW'.lt x (by simp [hx])
  have hw1 : ∀ k ∈ d1.weights Tryz.prog 30, k ≤ reachBytes := by
    intro k hk
    have hz := List.all_eq_true.1 hsz
    rw [P3] at hz
    exact of_decide_eq_true (hz k (DataW.weights_mem_each (j := 1) (t := 30) (d := d1) rfl rfl k hk))
  have hR1 : RawY W v1 := rawY_of (hval0 1 30 v1 (by rw [P3]; rfl) rfl) h1 hw1
  have hlt1 : ∀ x ∈ p1, x.block < W.heap.size := fun x hx => hW'.lt x (by simp [hx])
  have key : Calls Tryz.prog 3 #[v0, v1] W fun e w' => e = .returned (.bool true) ∧ Ext W w' := orders_c v0 v1 W hR0 hR1
  refine key.mono fun e W' h => ?_
  obtain ⟨rfl, hE⟩ := h
  refine ⟨_, rfl, _, _, _, [], p0 ++ p1, [], hW', trodAll_mk1 (shut_bool Tryz.underlying4 _), ?_, rfl, hE.frame _, fun h => by cases h⟩
  have : Tryz.f3.params.toList = [28, 30] := by rw [P3]
  rw [this]
  have hz := trodAll_mk2 (Below.trod (by kernel_rfl) (by kernel_rfl) (of_decide_eq_true (by kernel_rfl)) h0 hE hlt0) (Below.trod (by kernel_rfl) (by kernel_rfl) (of_decide_eq_true (by kernel_rfl)) h1 hE hlt1)
  exact hz
theorem orders_holds : Rows.PeriodOrdersSaid :=
  OpenClaim.holds_of_wide 3 Tryz.f3 rfl rfl rfl rfl rfl rfl rfl ⟨rfl, rfl, rfl, rfl, rfl⟩ rfl rfl rfl rfl rfl (by kernel_rfl) Tryz.func3 (by kernel_rfl)
    (of_decide_eq_true (by kernel_rfl)) (by unfold Func.isWrapper; first | (rw [if_pos (by decide +kernel)]; kernel_rfl) | (rw [if_neg (by decide +kernel)]; exact ⟨rfl, rfl⟩))
    (fun os started H enc _ => orders_lifted os started H enc)
#print axioms orders_holds
end Go.Proofs.YtpmfohhpaoagfaaGreat
