/-
  exact: Plus. exact: Of, Sign, Check, Cmp, Minus. exact: Times. exact: Div32, short. exact: short. Plain law of exact.Read: a text's number, nine digits at a time, by limbs. exact: up. exact: up, walked. exact: less: the plain law. exact: less, walked. exact: divide: the plain law of one digit and of all. exact: divide: adding back; moving down.
-/
import Derived.Test.YtjelnmokcpoofaaGreatDoorTAA
import Derived.Lib.Atoi
import Derived.Lib.SlTrimSet
import Derived.Deep.AppendLies
namespace Go.Proofs.YtjelnmokcpoofaaGreatDoor
set_option maxRecDepth 100000
open Go Go.RowKit Go.Proofs
theorem add_raw (a a' : Option Addr) (c c' : Nat) (x y : Nat) (w : World) (hl : (lim x).length ≤ 2147483648) (hm : (lim y).length ≤ 2147483648) (h : Row w a (limV (lim x))) (h' : Row w a' (limV (lim y))) :
  Calls Tryz.prog 160 #[.slice a (lim x).length c, .slice a' (lim y).length c'] w fun e w' => ∃ v, e = .returned v ∧ Ext w w' ∧ RawO w' w.heap.size v (x + y) := by
 refine (add_c a a' c c' (lim x) (lim y) w hl hm (lim_ok _) (lim_ok _) h h').mono ?_
 rintro e w' ⟨v, r, he, h1, h2, h3, h4, h5⟩
 exact ⟨v, he, h5, r, h1, h2, by omega, by rw [h4, val_lim, val_lim]⟩
theorem signed_raw (neg : Bool) (base : Nat) (s : Value) (n : Nat) (w : World) (h : RawO w base s n) :
  Calls Tryz.prog 89 #[.bool neg, s] w fun e w' => ∃ v, e = .returned v ∧ Ext w w' ∧ IntO w' base v (sg neg n) := by
 obtain ⟨r, h1, h2, h3, rfl⟩ := h
 refine (signed_c neg base s r w h2 h3 h1).mono ?_
 rintro e w' ⟨v, he, h1, h2⟩
 exact ⟨v, he, h2, h1⟩
theorem sub_raw (a a' : Option Addr) (c c' : Nat) (x y : Nat) (w : World) (hl : (lim x).length ≤ 2147483648) (hv : y ≤ x) (h : Row w a (limV (lim x))) (h' : Row w a' (limV (lim y))) :
  Calls Tryz.prog 161 #[.slice a (lim x).length c, .slice a' (lim y).length c'] w fun e w' => ∃ v, e = .returned v ∧ Ext w w' ∧ RawO w' w.heap.size v (x - y) := by
 refine (sub_c a a' c c' (lim x) (lim y) w hl (lim_mono hv) (lim_ok _) (lim_ok _) (by rw [val_lim, val_lim]; exact hv) h h').mono ?_
 rintro e w' ⟨v, he, h1, h2⟩
 rw [val_lim, val_lim] at h1
 refine ⟨v, he, h2, _, h1, lim_ok _, ?_, val_lim _⟩
 have := lim_mono (Nat.sub_le x y)
 omega
set_option maxHeartbeats 1600000 in
theorem plus_same (bx : Bool) (ax ay : Option Addr) (cx cy : Nat) (x y : Nat) (w : World) (hlx : (lim x).length ≤ 1073741824) (hly : (lim y).length ≤ 1073741824)
  (hx : Row w ax (limV (lim x))) (hy : Row w ay (limV (lim y))) :
  Calls Tryz.prog 98 #[.agg #[.bool bx, .slice ax (lim x).length cx], .agg #[.bool bx, .slice ay (lim y).length cy]] w fun e w' => ∃ v, e = .returned v ∧ IntO w' w.heap.size v (sg bx (x + y)) ∧ Ext w w' := by
 have hb : (bx == bx) = true := by simp
 replace hx := mK hx
 replace hy := mK hy
 go_enter Tryz.func98, Tryz.ntmps98
 go_wp2_with fail
 obtain ⟨w3, hw3⟩ : ∃ w3, w3 = ((w.alloc (.cells #[.bool bx, .slice ax (lim x).length cx] 50)).alloc (.cells #[.bool bx, .slice ay (lim y).length cy] 50)).alloc (.cells #[.bool false, .slice none 0 0] 50) := ⟨_, rfl⟩
 have hE : Ext w w3 := by rw [hw3]; exact (((xR w).al _).al _).al _
 have h00 : ∀ W, Ext w3 W → W.cell? ⟨w.heap.size, 0, none⟩ = some (.bool bx) := fun W e => e.cell (by rw [hw3]; go_simp)
 have h01 : ∀ W, Ext w3 W → W.cell? ⟨w.heap.size, 1, none⟩ = some (.slice ax (lim x).length cx) := fun W e => e.cell (by rw [hw3]; go_simp)
 have h10 : ∀ W, Ext w3 W → W.cell? ⟨w.heap.size + 1, 0, none⟩ = some (.bool bx) := fun W e => e.cell (by rw [hw3]; go_simp)
 have h11 : ∀ W, Ext w3 W → W.cell? ⟨w.heap.size + 1, 1, none⟩ = some (.slice ay (lim y).length cy) := fun W e => e.cell (by rw [hw3]; go_simp)
 have hsz : w.heap.size + 3 ≤ w3.heap.size := by rw [hw3]; simp
 have hB : ∀ W, Ext w3 W → W.heap[w.heap.size + 2]? = some (.cells #[.bool false, .slice none 0 0] 50) := fun W e => e.blk (by rw [hw3]; exact heap_at _ _ _ (by simp))
 rw [← hw3]
 replace hw3 := mK hw3
 replace hB := mK hB
 have hz : sg bx (x + y) = sg bx (x + y) := rfl
 replace hz := mK hz
 apply region_ext [.val _, .val _, .val _, .val _, .val _, .val _, .pred (fun W v => RawO W w3.heap.size v (x + y)), .pred (fun W v => IntO W w3.heap.size v (sg bx (x + y)))] (by kernel_rfl)
  (stable_vals _ (stable_vals _ (stable_vals _ (stable_vals _ (stable_vals _ (stable_vals _ (st_rawO _ _ (st_intO _ _ trivial))))))))
 ·iterate 6 (refine ⟨fun W hW _ => by go_simp; exact ⟨xR _, rfl⟩, ?_⟩)
  refine ⟨fun W hW _ => ?g6, fun v6 => ⟨fun W hW hF => ?g7, fun v7 => fun W hW hF => ?fin⟩⟩
  case g6 =>
   go_simp
   refine (add_raw _ _ _ _ _ _ _ (by omega) (by omega) (hx.out.ext (hE.trans hW)) (hy.out.ext (hE.trans hW))).mono ?_
   rintro e w' ⟨v, rfl, h1, h2⟩
   exact ⟨v, rfl, h1, h2.mono hW.size⟩
  case g7 =>
   have h6 : RawO W w3.heap.size v6 (x + y) := hF.1 (by kernel_rfl)
   replace h6 := mK h6
   clear hF
   have hs := fun neg => signed_raw neg _ _ _ W h6.out
   replace hs := mK hs
   go_simp
   have h9 := hs.out bx
   rw [hz.out] at h9
   exact h9
  case fin =>
   have h7 : IntO W w3.heap.size v7 (sg bx (x + y)) := hF.1 rfl
   clear hF
   obtain ⟨nb, a2, n2, c2, rfl⟩ := h7.r.shape
   have hBW := hB.out W hW
   have hR : IntO (W.setRow (w.heap.size + 2) #[.bool nb, .slice a2 n2 c2]) w.heap.size (.agg #[.bool nb, .slice a2 n2 c2]) (sg bx (x + y)) := (h7.row (by omega) _).mono (by omega)
   have hEW := (hE.trans hW).row (show w.heap.size ≤ w.heap.size + 2 by omega) #[.bool nb, .slice a2 n2 c2]
   replace hR := mK hR
   replace hEW := mK hEW
   clear h7 h00 h01 h10 h11
   go_simp
   refine wpList_store_row rfl 50 (.tmp 4) (.tmp 17) rfl (w.heap.size + 2) #[.bool nb, .slice a2 n2 c2] rfl rfl 50 _ hBW (by kernel_rfl) rfl (by kernel_rfl) ?_
   go_wp2_with fail
   exact bodyPost_ret (results_cell_row rfl _ _ (w.heap.size + 2) 50 #[.bool nb, .slice a2 n2 c2] (0, 0) _ rfl (setRow_heap _ _ _ _ _ _ hBW) Tryz.underlying50 rfl (by kernel_rfl)) rfl ⟨_, rfl, hR.out, hEW.out⟩
set_option maxHeartbeats 3200000 in
theorem plus_diff (bx bY : Bool) (hne : bx ≠ bY) (ax ay : Option Addr) (cx cy : Nat) (x y : Nat) (z : Int) (hz1 : y ≤ x → sg bx (x - y) = z) (hz2 : ¬ y ≤ x → sg bY (y - x) = z) (w : World) (hlx : (lim x).length ≤ 1073741824) (hly : (lim y).length ≤ 1073741824)
  (hx : Row w ax (limV (lim x))) (hy : Row w ay (limV (lim y))) :
  Calls Tryz.prog 98 #[.agg #[.bool bx, .slice ax (lim x).length cx], .agg #[.bool bY, .slice ay (lim y).length cy]] w fun e w' => ∃ v, e = .returned v ∧ IntO w' w.heap.size v z ∧ Ext w w' := by
 have hb : (bx == bY) = false := by simpa using hne
 replace hne := mK hne
 replace hz1 := mK hz1
 replace hz2 := mK hz2
 replace hx := mK hx
 replace hy := mK hy
 go_enter Tryz.func98, Tryz.ntmps98
 go_wp2_with fail
 obtain ⟨wb, hw3⟩ : ∃ wb, wb = ((w.alloc (.cells #[.bool bx, .slice ax (lim x).length cx] 50)).alloc (.cells #[.bool bY, .slice ay (lim y).length cy] 50)).alloc (.cells #[.bool false, .slice none 0 0] 50) := ⟨_, rfl⟩
 have hE : Ext w wb := by rw [hw3]; exact (((xR w).al _).al _).al _
 have h00 : ∀ W, Ext wb W → W.cell? ⟨w.heap.size, 0, none⟩ = some (.bool bx) := fun W e => e.cell (by rw [hw3]; go_simp)
 have h01 : ∀ W, Ext wb W → W.cell? ⟨w.heap.size, 1, none⟩ = some (.slice ax (lim x).length cx) := fun W e => e.cell (by rw [hw3]; go_simp)
 have h10 : ∀ W, Ext wb W → W.cell? ⟨w.heap.size + 1, 0, none⟩ = some (.bool bY) := fun W e => e.cell (by rw [hw3]; go_simp)
 have h11 : ∀ W, Ext wb W → W.cell? ⟨w.heap.size + 1, 1, none⟩ = some (.slice ay (lim y).length cy) := fun W e => e.cell (by rw [hw3]; go_simp)
 have hsz : w.heap.size + 3 ≤ wb.heap.size := by rw [hw3]; simp
 have hB : ∀ W, Ext wb W → W.heap[w.heap.size + 2]? = some (.cells #[.bool false, .slice none 0 0] 50) := fun W e => e.blk (by rw [hw3]; exact heap_at _ _ _ (by simp))
 rw [← hw3]
 replace hw3 := mK hw3
 replace hB := mK hB
 refine (size_c _ _ _ _ _ _ _ (by omega) (by omega) (hx.out.ext hE) (hy.out.ext hE)).mono ?_
 rintro e w3 ⟨r, rfl, hr, he4⟩
 replace h00 := fun W (e : Ext w3 W) => h00 W (he4.trans e)
 replace h01 := fun W (e : Ext w3 W) => h01 W (he4.trans e)
 replace h10 := fun W (e : Ext w3 W) => h10 W (he4.trans e)
 replace h11 := fun W (e : Ext w3 W) => h11 W (he4.trans e)
 replace hB := mK (fun W (e : Ext w3 W) => hB.out W (he4.trans e))
 replace hsz : w.heap.size + 3 ≤ w3.heap.size := by have := he4.size; omega
 replace hE := hE.trans he4
 clear hw3 he4
 by_cases hyx : y ≤ x
 ·have hr2 : 0 ≤ r := by
   have := hr.1
   omega
  have hz := mK (hz1.out hyx)
  replace hr := mK hr
  replace hyx := mK hyx
  go_wp2_with fail
  apply region_ext [.val _, .val _, .val _, .val _, .val _, .val _, .pred (fun W v => RawO W w3.heap.size v (x - y)), .pred (fun W v => IntO W w3.heap.size v (z))] (by kernel_rfl)
   (stable_vals _ (stable_vals _ (stable_vals _ (stable_vals _ (stable_vals _ (stable_vals _ (st_rawO _ _ (st_intO _ _ trivial))))))))
  ·iterate 6 (refine ⟨fun W hW _ => by go_simp; exact ⟨xR _, rfl⟩, ?_⟩)
   refine ⟨fun W hW _ => ?g6, fun v6 => ⟨fun W hW hF => ?g7, fun v7 => fun W hW hF => ?fin⟩⟩
   case g6 =>
    go_simp
    refine (sub_raw _ _ _ _ _ _ _ (by omega) hyx.out (hx.out.ext (hE.trans hW)) (hy.out.ext (hE.trans hW))).mono ?_
    rintro e w' ⟨v, rfl, h1, h2⟩
    exact ⟨v, rfl, h1, h2.mono hW.size⟩
   case g7 =>
    have h6 : RawO W w3.heap.size v6 (x - y) := hF.1 (by kernel_rfl)
    replace h6 := mK h6
    clear hF
    have hs := fun neg => signed_raw neg _ _ _ W h6.out
    replace hs := mK hs
    go_simp
    have h9 := hs.out bx
    rw [hz.out] at h9
    exact h9
   case fin =>
    have h7 : IntO W w3.heap.size v7 (z) := hF.1 rfl
    clear hF
    obtain ⟨nb, a2, n2, c2, rfl⟩ := h7.r.shape
    have hBW := hB.out W hW
    have hR : IntO (W.setRow (w.heap.size + 2) #[.bool nb, .slice a2 n2 c2]) w.heap.size (.agg #[.bool nb, .slice a2 n2 c2]) (z) := (h7.row (by omega) _).mono (by omega)
    have hEW := (hE.trans hW).row (show w.heap.size ≤ w.heap.size + 2 by omega) #[.bool nb, .slice a2 n2 c2]
    replace hR := mK hR
    replace hEW := mK hEW
    clear h7 h00 h01 h10 h11
    go_simp
    refine wpList_store_row rfl 50 (.tmp 4) (.tmp 31) rfl (w.heap.size + 2) #[.bool nb, .slice a2 n2 c2] rfl rfl 50 _ hBW (by kernel_rfl) rfl (by kernel_rfl) ?_
    go_wp2_with fail
    exact bodyPost_ret (results_cell_row rfl _ _ (w.heap.size + 2) 50 #[.bool nb, .slice a2 n2 c2] (0, 0) _ rfl (setRow_heap _ _ _ _ _ _ hBW) Tryz.underlying50 rfl (by kernel_rfl)) rfl ⟨_, rfl, hR.out, hEW.out⟩
 ·have hr2 : ¬ 0 ≤ r := by
   have := hr.1
   omega
  have hxy : x ≤ y := by omega
  have hz := mK (hz2.out hyx)
  replace hr := mK hr
  replace hyx := mK hyx
  replace hxy := mK hxy
  go_wp2_with fail
  apply region_ext [.val _, .val _, .val _, .val _, .val _, .val _, .pred (fun W v => RawO W w3.heap.size v (y - x)), .pred (fun W v => IntO W w3.heap.size v (z))] (by kernel_rfl)
   (stable_vals _ (stable_vals _ (stable_vals _ (stable_vals _ (stable_vals _ (stable_vals _ (st_rawO _ _ (st_intO _ _ trivial))))))))
  ·iterate 6 (refine ⟨fun W hW _ => by go_simp; exact ⟨xR _, rfl⟩, ?_⟩)
   refine ⟨fun W hW _ => ?g6, fun v6 => ⟨fun W hW hF => ?g7, fun v7 => fun W hW hF => ?fin⟩⟩
   case g6 =>
    go_simp
    refine (sub_raw _ _ _ _ _ _ _ (by omega) hxy.out (hy.out.ext (hE.trans hW)) (hx.out.ext (hE.trans hW))).mono ?_
    rintro e w' ⟨v, rfl, h1, h2⟩
    exact ⟨v, rfl, h1, h2.mono hW.size⟩
   case g7 =>
    have h6 : RawO W w3.heap.size v6 (y - x) := hF.1 (by kernel_rfl)
    replace h6 := mK h6
    clear hF
    have hs := fun neg => signed_raw neg _ _ _ W h6.out
    replace hs := mK hs
    go_simp
    have h9 := hs.out bY
    rw [hz.out] at h9
    exact h9
   case fin =>
    have h7 : IntO W w3.heap.size v7 (z) := hF.1 rfl
    clear hF
    obtain ⟨nb, a2, n2, c2, rfl⟩ := h7.r.shape
    have hBW := hB.out W hW
    have hR : IntO (W.setRow (w.heap.size + 2) #[.bool nb, .slice a2 n2 c2]) w.heap.size (.agg #[.bool nb, .slice a2 n2 c2]) (z) := (h7.row (by omega) _).mono (by omega)
    have hEW := (hE.trans hW).row (show w.heap.size ≤ w.heap.size + 2 by omega) #[.bool nb, .slice a2 n2 c2]
    replace hR := mK hR
    replace hEW := mK hEW
    clear h7 h00 h01 h10 h11
    go_simp
    refine wpList_store_row rfl 50 (.tmp 4) (.tmp 39) rfl (w.heap.size + 2) #[.bool nb, .slice a2 n2 c2] rfl rfl 50 _ hBW (by kernel_rfl) rfl (by kernel_rfl) ?_
    go_wp2_with fail
    exact bodyPost_ret (results_cell_row rfl _ _ (w.heap.size + 2) 50 #[.bool nb, .slice a2 n2 c2] (0, 0) _ rfl (setRow_heap _ _ _ _ _ _ hBW) Tryz.underlying50 rfl (by kernel_rfl)) rfl ⟨_, rfl, hR.out, hEW.out⟩
theorem plus_c (v1 v2 : Value) (X Y : Int) (w : World) (hX : nl X ≤ 1073741824) (hY : nl Y ≤ 1073741824) (h1 : IntR w v1 X) (h2 : IntR w v2 Y) :
  Calls Tryz.prog 98 #[v1, v2] w fun e w' => ∃ v, e = .returned v ∧ Ext w w' ∧ IntO w' w.heap.size v (X + Y) := by
 obtain ⟨s1, rfl, a1, c1, rfl, _, r1⟩ := h1
 obtain ⟨s2, rfl, a2, c2, rfl, _, r2⟩ := h2
 by_cases hs : decide (X < 0) = decide (Y < 0)
 ·have e : sg (decide (X < 0)) (X.natAbs + Y.natAbs) = X + Y := by
   unfold sg
   by_cases hx : X < 0
   ·have hy : Y < 0 := by simpa [hx] using hs
    simp [hx]
    omega
   ·have hy : ¬ Y < 0 := by simpa [hx] using hs
    simp [hx]
    omega
  rw [← hs, ← e]
  exact (plus_same _ _ _ _ _ _ _ _ hX hY r1 r2).mono fun _ _ ⟨v, h1, h2, h3⟩ => ⟨v, h1, h3, h2⟩
 ·refine (plus_diff _ _ hs _ _ _ _ _ _ (X + Y) (fun h => ?_) (fun h => ?_) _ hX hY r1 r2).mono fun _ _ ⟨v, h1, h2, h3⟩ => ⟨v, h1, h3, h2⟩
  ·unfold sg
   by_cases hx : X < 0
   ·have hy : ¬ Y < 0 := by simpa [hx] using hs
    simp [hx]
    omega
   ·have hy : Y < 0 := by simpa [hx] using hs
    simp [hx]
    omega
  ·unfold sg
   by_cases hx : X < 0
   ·have hy : ¬ Y < 0 := by simpa [hx] using hs
    simp [hy]
    omega
   ·have hy : Y < 0 := by simpa [hx] using hs
    simp [hy]
    omega
theorem raw_two (w : World) (m : Nat) (hm : m < 18446744073709551616) (lo hi : Int) (hlo : lo = (m : Int) % 4294967296) (hhi : hi = (m : Int) / 4294967296) (b : Nat) (hb : b = w.heap.size) :
  RawO (w.alloc (.cells #[.int .u32 lo, .int .u32 hi] 140)) b (.slice (some ⟨b, 0, none⟩) 2 2) m := by
 subst hb
 have e : (limV [m % 4294967296, m / 4294967296]).toArray = #[.int .u32 lo, .int .u32 hi] := by
  simp only [limV, List.map_cons, List.map_nil, hlo, hhi]
  simp
 have := magO_block (w := w) (q := [m % 4294967296, m / 4294967296]) (by simp)
 rw [e] at this
 refine ⟨_, this, ?_, by simp, by simp [val]; omega⟩
 intro x hx
 simp only [List.mem_cons, List.not_mem_nil, or_false] at hx
 omega
set_option maxHeartbeats 1600000 in
theorem of_c (n : Int) (w : World) (h0 : -9223372036854775808 ≤ n) (h1 : n < 9223372036854775808) :
  Calls Tryz.prog 52 #[.int .i64 n] w fun e w' => ∃ v, e = .returned v ∧ Ext w w' ∧ IntO w' w.heap.size v n := by
 by_cases hn : n < 0
 ·have hz : sg true n.natAbs = n := by simp [sg]; omega
  replace hz := mK hz
  go_enter Tryz.func52, Tryz.ntmps52
  go_wp2_with fail
  have e : IntKind.u64.wrap (-IntKind.u64.wrap n) = ((n.natAbs : Nat) : Int) := by rw [IntKind.wrap_u64, IntKind.wrap_u64]; omega
  refine (signed_raw true (w.heap.size + 1) _ n.natAbs _ (raw_two _ _ (by omega) _ _ (by rw [e]) (by rw [e]; omega) _ (by simp))).mono ?_
  rintro e w2 ⟨v, rfl, he2, h7⟩
  have hEW0 := (((xR w).al _).al _).trans he2
  have hBW := he2.blk ((heap_alloc_old _ _ (by simp)).trans (heap_alloc_new w _))
  rw [hz.out] at h7
  replace he2 := mK he2
  obtain ⟨nb, a2, n2, c2, rfl⟩ := h7.r.shape
  have hR : IntO (w2.setRow (w.heap.size) #[.bool nb, .slice a2 n2 c2]) w.heap.size (.agg #[.bool nb, .slice a2 n2 c2]) (n) := (h7.row (by omega) _).mono (by omega)
  have hEW := hEW0.row (show w.heap.size ≤ w.heap.size by omega) #[.bool nb, .slice a2 n2 c2]
  replace hR := mK hR
  replace hEW := mK hEW
  clear h7 hEW0
  go_wp2_with (refine wpList_store_row rfl 50 (.tmp 2) (.tmp 18) rfl (w.heap.size) #[.bool nb, .slice a2 n2 c2] rfl rfl 50 _ hBW (by kernel_rfl) rfl (by kernel_rfl) ?_)
  exact bodyPost_ret (results_cell_row rfl _ _ (w.heap.size) 50 #[.bool nb, .slice a2 n2 c2] (0, 0) _ rfl (setRow_heap _ _ _ _ _ _ hBW) Tryz.underlying50 rfl (by kernel_rfl)) rfl ⟨_, rfl, hEW.out, hR.out⟩
 ·have hz : sg false n.natAbs = n := by simp [sg]; omega
  replace hz := mK hz
  go_enter Tryz.func52, Tryz.ntmps52
  go_wp2_with fail
  refine (signed_raw false (w.heap.size + 1) _ n.natAbs _ (raw_two _ _ (by omega) _ _ (by omega) (by omega) _ (by simp))).mono ?_
  rintro e w2 ⟨v, rfl, he2, h7⟩
  have hEW0 := (((xR w).al _).al _).trans he2
  have hBW := he2.blk ((heap_alloc_old _ _ (by simp)).trans (heap_alloc_new w _))
  rw [hz.out] at h7
  replace he2 := mK he2
  obtain ⟨nb, a2, n2, c2, rfl⟩ := h7.r.shape
  have hR : IntO (w2.setRow (w.heap.size) #[.bool nb, .slice a2 n2 c2]) w.heap.size (.agg #[.bool nb, .slice a2 n2 c2]) (n) := (h7.row (by omega) _).mono (by omega)
  have hEW := hEW0.row (show w.heap.size ≤ w.heap.size by omega) #[.bool nb, .slice a2 n2 c2]
  replace hR := mK hR
  replace hEW := mK hEW
  clear h7 hEW0
  go_wp2_with (refine wpList_store_row rfl 50 (.tmp 2) (.tmp 18) rfl (w.heap.size) #[.bool nb, .slice a2 n2 c2] rfl rfl 50 _ hBW (by kernel_rfl) rfl (by kernel_rfl) ?_)
  exact bodyPost_ret (results_cell_row rfl _ _ (w.heap.size) 50 #[.bool nb, .slice a2 n2 c2] (0, 0) _ rfl (setRow_heap _ _ _ _ _ _ hBW) Tryz.underlying50 rfl (by kernel_rfl)) rfl ⟨_, rfl, hEW.out, hR.out⟩
set_option maxHeartbeats 1600000 in
theorem sign_c (v : Value) (X : Int) (w : World) (h : IntR w v X) (hX : nl X ≤ 1073741824) :
  Calls Tryz.prog 87 #[v] w fun e w' => e = .returned (.int .i64 (X.sign)) ∧ Ext w w' := by
 obtain ⟨s, rfl, a, c, rfl, _, r⟩ := h
 clear r
 by_cases h0 : X = 0
 ·subst h0
  have hl : (lim (Int.natAbs 0)).length = 0 := by simp [lim_zero]
  rw [hl]
  go_enter Tryz.func87, Tryz.ntmps87
  go_wp2_with fail
  go_ret
  exact ⟨rfl, (xR _).al _⟩
 ·have hl : (((lim X.natAbs).length : Int) == 0) = false := by
   have : X.natAbs ≠ 0 := by omega
   rw [lim_pos this]
   simp
   omega
  replace h0 := mK h0
  by_cases hn : X < 0
  ·have hs : X.sign = -1 := Int.sign_eq_neg_one_of_neg hn
   have hd : decide (X < 0) = true := by simpa using hn
   rw [hs, hd]
   replace hn := mK hn
   clear hs hd
   go_enter Tryz.func87, Tryz.ntmps87
   go_wp2_with fail
   go_ret
   exact ⟨rfl, (xR _).al _⟩
  ·have hs : X.sign = 1 := Int.sign_eq_one_of_pos (by have := h0.out; omega)
   have hd : decide (X < 0) = false := by simpa using hn
   rw [hs, hd]
   replace hn := mK hn
   clear hs hd
   go_enter Tryz.func87, Tryz.ntmps87
   go_wp2_with fail
   go_ret
   exact ⟨rfl, (xR _).al _⟩
set_option maxHeartbeats 3200000 in
theorem cmp_c (v1 v2 : Value) (X Y : Int) (w : World) (hX : nl X ≤ 1073741824) (hY : nl Y ≤ 1073741824) (h1 : IntR w v1 X) (h2 : IntR w v2 Y) :
  Calls Tryz.prog 51 #[v1, v2] w fun e w' => e = .returned (.int .i64 (X - Y).sign) ∧ Ext w w' := by
 have H1 := mK h1
 have H2 := mK h2
 obtain ⟨s1, rfl, a1, c1, rfl, _, r1⟩ := h1
 obtain ⟨s2, rfl, a2, c2, rfl, _, r2⟩ := h2
 replace r1 := mK r1
 replace r2 := mK r2
 obtain ⟨bx, hbx⟩ : ∃ b, b = decide (X < 0) := ⟨_, rfl⟩
 obtain ⟨bY, hbY⟩ : ∃ b, b = decide (Y < 0) := ⟨_, rfl⟩
 rw [← hbx] at H1 ⊢
 rw [← hbY] at H2 ⊢
 replace hbx := mK hbx
 replace hbY := mK hbY
 go_enter Tryz.func51, Tryz.ntmps51
 go_wp2_with fail
 obtain ⟨w3, hw3⟩ : ∃ w3, w3 = (w.alloc (.cells #[.bool bx, .slice a1 (lim X.natAbs).length c1] 50)).alloc (.cells #[.bool bY, .slice a2 (lim Y.natAbs).length c2] 50) := ⟨_, rfl⟩
 have hE : Ext w w3 := by rw [hw3]; exact ((xR w).al _).al _
 have h00 : ∀ W, Ext w3 W → W.cell? ⟨w.heap.size, 0, none⟩ = some (.bool bx) := fun W e => e.cell (by rw [hw3]; go_simp)
 have h01 : ∀ W, Ext w3 W → W.cell? ⟨w.heap.size, 1, none⟩ = some (.slice a1 (lim X.natAbs).length c1) := fun W e => e.cell (by rw [hw3]; go_simp)
 have h10 : ∀ W, Ext w3 W → W.cell? ⟨w.heap.size + 1, 0, none⟩ = some (.bool bY) := fun W e => e.cell (by rw [hw3]; go_simp)
 have h11 : ∀ W, Ext w3 W → W.cell? ⟨w.heap.size + 1, 1, none⟩ = some (.slice a2 (lim Y.natAbs).length c2) := fun W e => e.cell (by rw [hw3]; go_simp)
 rw [← hw3]
 replace hw3 := mK hw3
 apply region_ext [.val _, .val (.int .i64 X.sign), .val _, .val (.int .i64 Y.sign), .val _, .val _] (by kernel_rfl)
  (stable_vals _ (stable_vals _ (stable_vals _ (stable_vals _ (stable_vals _ (stable_vals _ trivial))))))
 ·iterate 1 (refine ⟨fun W hW _ => by go_simp; exact ⟨xR _, rfl⟩, ?_⟩)
  refine ⟨fun W hW _ => ?g1, ?_⟩
  case g1 =>
   go_simp
   refine (sign_c _ X _ (H1.out.ext (hE.trans hW)) hX).mono ?_
   rintro e w' ⟨rfl, h⟩
   exact ⟨rfl, h⟩
  iterate 1 (refine ⟨fun W hW _ => by go_simp; exact ⟨xR _, rfl⟩, ?_⟩)
  refine ⟨fun W hW _ => ?g3, ?_⟩
  case g3 =>
   go_simp
   refine (sign_c _ Y _ (H2.out.ext (hE.trans hW)) hY).mono ?_
   rintro e w' ⟨rfl, h⟩
   exact ⟨rfl, h⟩
  iterate 2 (refine ⟨fun W hW _ => by go_simp; exact ⟨xR _, rfl⟩, ?_⟩)
  intro W hW _
  have hEW := mK (hE.trans hW)
  by_cases hs : X.sign = Y.sign
  ·have hne : (X.sign != Y.sign) = false := by simpa using hs
   replace hs := mK hs
   go_simp
   go_wp2_with fail
   refine (size_c _ _ _ _ X.natAbs Y.natAbs W (by unfold nl at *; omega) (by unfold nl at *; omega) (r1.out.ext hEW.out) (r2.out.ext hEW.out)).mono ?_
   rintro e w5 ⟨r, rfl, hr, he5⟩
   have h5 := fun W' (e : Ext w5 W') => h00 W' (hW.trans (he5.trans e))
   have h55 := h5 w5 (xR _)
   clear h00 h01 h10 h11 h5
   have hres : (bx = true → (r < 0 → (X - Y).sign = 1) ∧ (r = 0 → (X - Y).sign = 0) ∧ (0 < r → (X - Y).sign = -1)) ∧ (bx = false → (r < 0 → (X - Y).sign = -1) ∧ (r = 0 → (X - Y).sign = 0) ∧ (0 < r → (X - Y).sign = 1)) := by
    obtain ⟨q1, q2, q3⟩ := hr
    have hb := hbx.out
    have hs := hs.out
    have sp : ∀ z : Int, 0 < z → z.sign = 1 := fun z h => Int.sign_eq_one_of_pos h
    have sn : ∀ z : Int, z < 0 → z.sign = -1 := fun z h => Int.sign_eq_neg_one_of_neg h
    have s0 : ∀ z : Int, z = 0 → z.sign = 0 := fun z h => by rw [h]; rfl
    have hxy : (X < 0 ∧ Y < 0) ∨ (0 ≤ X ∧ 0 ≤ Y) := by
     rcases Int.lt_trichotomy X 0 with h | h | h <;> rcases Int.lt_trichotomy Y 0 with h' | h' | h'
     all_goals (first | omega | (rw [sn X h, sp Y h'] at hs; omega) | (rw [sp X h, sn Y h'] at hs; omega) | (rw [sn X h, s0 Y h'] at hs; omega) | (rw [s0 X h, sn Y h'] at hs; omega))
    constructor
    ·intro hbt
     have hx : X < 0 := by rw [hbt] at hb; simpa using hb
     exact ⟨fun h => sp _ (by omega), fun h => s0 _ (by omega), fun h => sn _ (by omega)⟩
    ·intro hbt
     have hx : ¬ X < 0 := by rw [hbt] at hb; simpa using hb
     exact ⟨fun h => sn _ (by omega), fun h => s0 _ (by omega), fun h => sp _ (by omega)⟩
   have hr3 := hr.2.2
   replace hres := mK hres
   replace hr := mK hr
   have hfin := mK (hEW.out.trans he5)
   clear he5 hbx
   cases bx with
   | true =>
    have hv := mK (hres.out.1 rfl)
    clear hres
    rcases Int.lt_trichotomy r 0 with h | h | h
    ·have hq := mK (hv.out.1 h)
     go_wp2_with fail
     go_ret
     exact ⟨ret1_eq hq.out.symm, hfin.out⟩
    ·have hq := mK (hv.out.2.1 h)
     subst h
     go_wp2_with fail
     go_ret
     exact ⟨ret1_eq hq.out.symm, hfin.out⟩
    ·have hq := mK (hv.out.2.2 h)
     go_wp2_with fail
     go_ret
     exact ⟨ret1_eq hq.out.symm, hfin.out⟩
   | false =>
    have hv := mK (hres.out.2 rfl)
    clear hres
    rcases Int.lt_trichotomy r 0 with h | h | h
    ·have hq := mK (hv.out.1 h)
     go_wp2_with fail
     go_ret
     exact ⟨ret1_eq hq.out.symm, hfin.out⟩
    ·have hq := mK (hv.out.2.1 h)
     subst h
     go_wp2_with fail
     go_ret
     exact ⟨ret1_eq hq.out.symm, hfin.out⟩
    ·have hq := mK (hv.out.2.2 h)
     go_wp2_with fail
     go_ret
     exact ⟨ret1_eq hq.out.symm, hfin.out⟩
  ·have hne : (X.sign != Y.sign) = true := by simpa using hs
   have sp : ∀ z : Int, 0 < z → z.sign = 1 := fun z h => Int.sign_eq_one_of_pos h
   have sn : ∀ z : Int, z < 0 → z.sign = -1 := fun z h => Int.sign_eq_neg_one_of_neg h
   have s0 : ∀ z : Int, z = 0 → z.sign = 0 := fun z h => by rw [h]; rfl
   by_cases hlt : X.sign < Y.sign
   ·have hv : (X - Y).sign = -1 := by
     rcases Int.lt_trichotomy X 0 with h | h | h <;> rcases Int.lt_trichotomy Y 0 with h' | h' | h'
     all_goals (first | (exact sn _ (by omega)) | (first | rw [sn X h] at hlt | rw [s0 X h] at hlt | rw [sp X h] at hlt); (first | rw [sn Y h'] at hlt | rw [s0 Y h'] at hlt | rw [sp Y h'] at hlt); omega)
    replace hv := mK hv
    replace hs := mK hs
    clear sp sn s0 h00 h01 h10 h11
    go_simp
    go_wp2_with fail
    go_ret
    exact ⟨ret1_eq hv.out.symm, hEW.out⟩
   ·have hv : (X - Y).sign = 1 := by
     rcases Int.lt_trichotomy X 0 with h | h | h <;> rcases Int.lt_trichotomy Y 0 with h' | h' | h'
     all_goals (first | (exact sp _ (by omega)) | (first | rw [sn X h] at hlt hs | rw [s0 X h] at hlt hs | rw [sp X h] at hlt hs); (first | rw [sn Y h'] at hlt hs | rw [s0 Y h'] at hlt hs | rw [sp Y h'] at hlt hs); omega)
    replace hv := mK hv
    replace hs := mK hs
    clear sp sn s0 h00 h01 h10 h11
    go_simp
    go_wp2_with fail
    go_ret
    exact ⟨ret1_eq hv.out.symm, hEW.out⟩
theorem val_set {l : List Nat} {j : Nat} (h : j < l.length) (r : Nat) : val (l.set j r) + 4294967296 ^ j * l.getD j 0 = val l + 4294967296 ^ j * r := by
 induction l generalizing j with
 | nil => simp at h
 | cons x l ih =>
  cases j with
  | zero => simp [val]; omega
  | succ j =>
   have := ih (j := j) (by simpa using h)
   simp only [List.set_cons_succ, val, Nat.pow_succ, List.getD_cons_succ]
   have e1 : 4294967296 ^ j * 4294967296 * l.getD j 0 = 4294967296 * (4294967296 ^ j * l.getD j 0) := by rw [Nat.mul_comm (4294967296 ^ j) 4294967296, Nat.mul_assoc]
   have e2 : 4294967296 ^ j * 4294967296 * r = 4294967296 * (4294967296 ^ j * r) := by rw [Nat.mul_comm (4294967296 ^ j) 4294967296, Nat.mul_assoc]
   rw [e1, e2]
   omega
theorem mul_step {T A s p u v o c r c' : Nat} (h : T + p * c = A + s) (he : c + (u * v + o) = r + 4294967296 * c') (T' : Nat) (hT : T' + p * o = T + p * r) : T' + p * 4294967296 * c' = A + (s + p * (u * v)) := by
 have e : p * (c + (u * v + o)) = p * (r + 4294967296 * c') := by rw [he]
 simp only [Nat.mul_add, ← Nat.mul_assoc] at e ⊢
 rw [Nat.mul_assoc p u v] at *
 omega
def MulO (a b q : List Nat) (i : Nat) : Prop := q.length = a.length + b.length ∧ OkL q ∧ val (q.take (i + b.length)) = val (a.take i) * val b
def MulI (a b q : List Nat) (i k c : Nat) : Prop :=
 q.length = a.length + b.length ∧ OkL q ∧ c < 4294967296 ∧ val (q.take (i + b.length)) + 4294967296 ^ (i + k) * c = val (a.take i) * val b + 4294967296 ^ i * a.getD i 0 * val (b.take k)
theorem mulO_start (a b : List Nat) : MulO a b (List.replicate (a.length + b.length) 0) 0 :=
 ⟨by simp, fun x hx => by rw [List.eq_of_mem_replicate hx]; omega, by simp [val, List.take_replicate, val_replicate]⟩
theorem mulI_start {a b q : List Nat} {i : Nat} (h : MulO a b q i) : MulI a b q i 0 0 :=
 ⟨h.1, h.2.1, by omega, by simp [h.2.2, val]⟩
theorem mulI_step {a b q : List Nat} {i k c : Nat} (h : MulI a b q i k c) (hi : i < a.length) (hk : k < b.length) (ha : OkL a) (hb : OkL b) :
  MulI a b (q.set (i + k) ((c + (a.getD i 0 * b.getD k 0 + q.getD (i + k) 0)) % 4294967296)) i (k + 1) ((c + (a.getD i 0 * b.getD k 0 + q.getD (i + k) 0)) / 4294967296) := by
 obtain ⟨h1, h2, h3, h4⟩ := h
 have hu := okL_get ha i
 have hv := okL_get hb k
 have ho := okL_get h2 (i + k)
 have hlt : i + k < (q.take (i + b.length)).length := by rw [List.length_take]; omega
 have hs := val_set hlt ((c + (a.getD i 0 * b.getD k 0 + q.getD (i + k) 0)) % 4294967296)
 have hg : (q.take (i + b.length)).getD (i + k) 0 = q.getD (i + k) 0 := by
  simp [List.getD_eq_getElem?_getD, hk]
 rw [hg] at hs
 refine ⟨by simpa using h1, okL_set h2 (Nat.mod_lt _ (by omega)), ?_, ?_⟩
 ·have : a.getD i 0 * b.getD k 0 ≤ 4294967295 * 4294967295 := Nat.mul_le_mul (by omega) (by omega)
  refine Nat.div_lt_of_lt_mul ?_
  omega
 ·rw [val_take_succ b k hk, List.take_set]
  have e := (Nat.mod_add_div (c + (a.getD i 0 * b.getD k 0 + q.getD (i + k) 0)) 4294967296).symm
  have := mul_step h4 e _ hs
  rw [show i + (k + 1) = (i + k) + 1 from rfl, Nat.pow_succ, this]
  rw [Nat.mul_add, Nat.pow_add]
  simp only [Nat.mul_assoc, Nat.mul_left_comm]
theorem mulI_end {a b q : List Nat} {i c : Nat} (h : MulI a b q i b.length c) (hi : i < a.length) : MulO a b (q.set (i + b.length) c) (i + 1) := by
 obtain ⟨h1, h2, h3, h4⟩ := h
 refine ⟨by simpa using h1, okL_set h2 h3, ?_⟩
 rw [show i + 1 + b.length = (i + b.length) + 1 by omega, val_take_set _ _ _ (by omega), h4, List.take_length, val_take_succ a i hi, Nat.add_mul]
theorem mul_bounds {u v o c : Nat} (hu : u < 4294967296) (hv : v < 4294967296) (ho : o < 4294967296) (hc : c < 4294967296) :
  0 ≤ (u : Int) * v ∧ (u : Int) * v + o ≤ 18446744069414584320 ∧ (c : Int) + ((u : Int) * v + o) ≤ 18446744073709551615 := by
 have h : u * v ≤ 4294967295 * 4294967295 := Nat.mul_le_mul (by omega) (by omega)
 have e : (u : Int) * v = ((u * v : Nat) : Int) := by simp
 rw [e]
 omega
theorem wraps_u64 (n : Int) (h₀ : 0 ≤ n) (h₁ : n < 2 ^ 64) : IntKind.u64.wrap n = n := by rw [IntKind.wrap_u64]; omega
theorem or64 (a b : Nat) (ha : a < 18446744073709551616) (hb : b < 18446744073709551616) : bits .or .u64 a b = ((a ||| b : Nat) : Int) := (bits_nat .u64 64 (by decide) wraps_u64 a b ha hb).2
theorem join64 (hi lo : Nat) (hh : hi < 4294967296) (hl : lo < 4294967296) : bits .or .u64 ((hi : Int) * 4294967296) lo = (hi : Int) * 4294967296 + lo := by
 have e : (hi : Int) * 4294967296 = ((hi * 4294967296 : Nat) : Int) := by simp
 rw [e, or64 _ _ (by omega) (by omega)]
 have := Nat.shiftLeft_add_eq_or_of_lt (i := 32) (b := lo) hl hi
 rw [Nat.shiftLeft_eq] at this
 have h2 : (2 : Nat) ^ 32 = 4294967296 := by decide
 rw [h2] at this
 rw [← this]
 simp
set_option maxHeartbeats 800000 in
theorem div32_c (hi lo y : Nat) (w : World) (hh : hi < y) (hl : lo < 4294967296) (hy : y < 4294967296) :
  Calls Tryz.prog 147 #[.int .u32 hi, .int .u32 lo, .int .u32 y] w fun e w' => e = .returned (.tuple #[.int .u32 ((hi * 4294967296 + lo) / y : Nat), .int .u32 ((hi * 4294967296 + lo) % y : Nat)]) ∧ ∃ n, w' = w.drewN n := by
 have hj := join64 hi lo (by omega) hl
 go_enter Tryz.func147, Tryz.ntmps147
 go_wp2_with fail
 have e1 : (((hi * 4294967296 + lo) / y : Nat) : Int) = ((hi : Int) * 4294967296 + lo) / y := by simp
 have e2 : (((hi * 4294967296 + lo) % y : Nat) : Int) = ((hi : Int) * 4294967296 + lo) % y := by simp
 have q0 : (hi * 4294967296 + lo) / y < 4294967296 := Nat.div_lt_of_lt_mul (by have := Nat.mul_le_mul_right 4294967296 (show hi + 1 ≤ y from hh); omega)
 have q1 : (hi * 4294967296 + lo) % y < y := Nat.mod_lt _ (by omega)
 have w1 : IntKind.u32.wrap (((hi : Int) * 4294967296 + lo) / y) = ((hi * 4294967296 + lo) / y : Nat) := by rw [← e1]; exact wraps_u32 _ (Int.natCast_nonneg _) (Int.ofNat_lt.2 q0)
 have w2 : IntKind.u32.wrap (((hi : Int) * 4294967296 + lo) % y) = ((hi * 4294967296 + lo) % y : Nat) := by rw [← e2]; exact wraps_u32 _ (Int.natCast_nonneg _) (Int.ofNat_lt.2 (Nat.lt_trans q1 hy))
 have hy0 : y ≠ 0 := by omega
 go_quiet (fail)
 go_wp2_with fail
 go_ret2
 exact ⟨ret2_eq e1.symm e2.symm, nq, rfl⟩
theorem val_drop_succ (l : List Nat) (k : Nat) (h : k < l.length) : val (l.drop k) = l.getD k 0 + 4294967296 * val (l.drop (k + 1)) := by
 rw [List.drop_eq_getElem_cons h]
 simp [val, h]
def ShortI (q : List Nat) (d : Nat) (p : List Nat) (k r : Nat) : Prop := p.length = q.length ∧ OkL p ∧ r < d ∧ p.take k = q.take k ∧ val (q.drop k) = val (p.drop k) * d + r
theorem shortI_start {q : List Nat} {d : Nat} (h : OkL q) (hd : 0 < d) : ShortI q d q q.length 0 := ⟨rfl, h, hd, rfl, by simp [val]⟩
theorem shortI_step {q p : List Nat} {d k r : Nat} (h : ShortI q d p (k + 1) r) (hk : k < q.length) (hd : d < 4294967296) (hq : OkL q) :
  ShortI q d (p.set k ((r * 4294967296 + q.getD k 0) / d)) k ((r * 4294967296 + q.getD k 0) % d) := by
 obtain ⟨h1, h2, h3, h4, h5⟩ := h
 have hl := okL_get hq k
 refine ⟨by simpa using h1, okL_set h2 ?_, Nat.mod_lt _ (by omega), ?_, ?_⟩
 ·exact Nat.div_lt_of_lt_mul (by have := Nat.mul_le_mul_right 4294967296 (show r + 1 ≤ d from h3); omega)
 ·rw [List.take_set_of_le (nR _)]
  have := congrArg (List.take k) h4
  rwa [List.take_take, List.take_take, Nat.min_eq_left (by omega)] at this
 ·rw [val_drop_succ q k hk, h5, val_drop_succ _ k (by simp; omega)]
  have e := Nat.div_add_mod (r * 4294967296 + q.getD k 0) d
  have e2 : (p.set k ((r * 4294967296 + q.getD k 0) / d)).getD k 0 = (r * 4294967296 + q.getD k 0) / d := by simp [show k < p.length by omega]
  have e3 : (p.set k ((r * 4294967296 + q.getD k 0) / d)).drop (k + 1) = p.drop (k + 1) := by rw [List.drop_set_of_lt (by omega)]
  rw [e2, e3]
  generalize (r * 4294967296 + q.getD k 0) / d = x at *
  generalize (r * 4294967296 + q.getD k 0) % d = y at *
  generalize val (p.drop (k + 1)) = v at *
  rw [Nat.add_mul, Nat.mul_add, Nat.mul_assoc 4294967296 v d, Nat.mul_comm x d]
  omega
set_option maxHeartbeats 1600000 in
theorem short_c (base g n cap d : Nat) (q : List Nat) (w : World) (hn : q.length = n) (hl : n ≤ 4294967296) (okq : OkL q) (hd : 0 < d) (hd2 : d < 4294967296)
  (h : w.ownsRow base 140 1 (.slice (some ⟨g, 0, none⟩) n cap) n (limV q)) :
  Calls Tryz.prog 92 #[.slice (some ⟨g, 0, none⟩) n cap, .int .u32 d] w fun e w' => ∃ p r, e = .returned (.int .u32 (r : Nat)) ∧ ShortI q d p 0 r ∧
   w'.ownsRow base 140 1 (.slice (some ⟨g, 0, none⟩) n cap) n (limV p) ∧ w.grownBy w' (some g) := by
 have hst := mK (shortI_start okq hd)
 rw [hn] at hst
 replace h := mK h
 replace hn := mK hn
 go_enter Tryz.func92, Tryz.ntmps92
 go_wp2_with fail
 go_loopw [6, 5] (fun i s wr => ∃ k r p, k ≤ n ∧ i = .int .i64 ((k : Int) - 1) ∧ s = .int .u32 (r : Nat) ∧ ShortI q d p k r ∧ wr.ownsRow base 140 1 (.slice (some ⟨g, 0, none⟩) n cap) n (limV p) ∧ w.grownBy wr (some g)) (fun i _ _ => (intOf i + 1).toNat)
 case atStart => exact ⟨n, 0, q, nR _, rfl, rfl, hst.out, h.out, World.grownBy.refl _ _⟩
 case round =>
  obtain ⟨k, r, p, hk, rfl, rfl, hsh, ho, hgr⟩ := hrel
  cases k with
  | zero =>
   replace hsh := mK hsh
   replace ho := mK ho
   replace hgr := mK hgr
   go_wp2_with fail
   go_ret
   exact ⟨p, r, rfl, hsh.out, ho.out, hgr.out⟩
  | succ k =>
   rw [show (((k + 1 : Nat)) : Int) - 1 = (k : Int) by omega]
   have hkq : k < q.length := by rw [hn.out]; omega
   have hpl := hsh.1
   have hx : p.getD k 0 = q.getD k 0 := by
    have := congrArg (fun l => l.getD k 0) hsh.2.2.2.1
    simpa [List.getD_eq_getElem?_getD, List.getElem?_take] using this
   have hxl := okL_get okq k
   have hrd := hsh.2.2.1
   have hcell : wr.cell? ⟨g, k, none⟩ = some (.int .u32 (q.getD k 0 : Nat)) := by
    rw [ho.cellAt k (by omega), ← hx]
    have : k < p.length := by omega
    simp [limV, this]
   have hfz := ho.frozenAt k
   have hnext := mK (shortI_step hsh hkq hd2 okq)
   generalize q.getD k 0 = x at *
   have hdv := fun w => div32_c r x d w hrd hxl hd2
   obtain ⟨Q, hQ⟩ : ∃ Q, Q = (r * 4294967296 + x) / d := ⟨_, rfl⟩
   obtain ⟨R, hR⟩ : ∃ R, R = (r * 4294967296 + x) % d := ⟨_, rfl⟩
   rw [← hQ, ← hR] at hdv hnext
   clear hQ hR hx hsh
   obtain ⟨hs1, hs2⟩ := ho.stored k (.int .u32 (Q : Nat))
   rw [limV_set] at hs1
   replace hs1 := mK hs1
   replace hs2 := mK hs2
   replace hdv := mK hdv
   replace ho := mK ho
   replace hgr := mK hgr
   go_wp2_with (go_at_call 147; refine (hdv.out _).mono ?_; rintro e w' ⟨rfl, m, rfl⟩)
   go_roundw
   case rel => exact ⟨k, R, p.set k Q, by omega, rfl, rfl, hnext.out, hs1.out, hgr.out.trans ⟨hs2.out.os, hs2.out.tape, hs2.out.output, hs2.out.size, hs2.out.block⟩⟩
   case measure => simp [intOf] <;> omega
end Go.Proofs.YtjelnmokcpoofaaGreatDoor
namespace Go.Proofs.YtjelnmokcpoofaaGreatDoor
set_option maxRecDepth 100000
open Go Go.RowKit Go.Proofs Go.Lib
def bodyI (s : List UInt8) : List UInt8 := if s.head? = some 45 then s.tail else s
def negI (s : List UInt8) : Bool := decide (s.head? = some 45)
def badI (s : List UInt8) : Bool := decide (bodyI s = []) || (decide ((bodyI s).head? = some 48) && (decide (1 < (bodyI s).length) || negI s))
def readI (s : List UInt8) : Option Int := if badI s = true then none else (decFrom 0 (bodyI s)).map fun m => sg (negI s) m
theorem trimPrefix_body (s : List UInt8) : trimPrefix s [45] = bodyI s ∧ hasPrefix s [45] = negI s := by
 cases s with
 | nil => exact ⟨rfl, rfl⟩
 | cons c r =>
  by_cases h : c = 45
  ·subst h
   exact ⟨by simp [trimPrefix, hasPrefix, bodyI], by simp [hasPrefix, negI]⟩
  ·have h' : ¬ (45 : UInt8) = c := fun e => h e.symm
   have e : [(45 : UInt8)].isPrefixOf (c :: r) = false := by simp [List.isPrefixOf, h']
   exact ⟨by simp [trimPrefix, hasPrefix, bodyI, h, e], by simp [hasPrefix, negI, h, e]⟩
def digs : List UInt8 := [48, 49, 50, 51, 52, 53, 54, 55, 56, 57]
theorem digs_digit (b : UInt8) : digs.contains b = (digitVal b).isSome := by
 have h : ∀ b : Fin 256, digs.contains (UInt8.ofNat b) = (digitVal (UInt8.ofNat b)).isSome := by decide
 have := h ⟨b.toNat, b.toNat_lt⟩
 simpa using this
theorem decFrom_some : ∀ (l : List UInt8) (a : Nat), (decFrom a l).isSome = l.all fun b => (digitVal b).isSome
 | [], _ => rfl
 | b :: r, a => by
  rw [List.all_cons]
  unfold decFrom
  cases h : digitVal b with
  | none => simp
  | some d => simp [decFrom_some r]
theorem dropWhile_nil {α : Type} (p : α → Bool) : ∀ l : List α, (l.dropWhile p = [] ↔ l.all p = true)
 | [] => by simp
 | a :: r => by
  rw [List.dropWhile_cons, List.all_cons]
  cases h : p a with
  | true => simpa using dropWhile_nil p r
  | false => simp
theorem trim_digs (l : List UInt8) : (trimS l digs = []) ↔ (decFrom 0 l).isSome = true := by
 have e : (fun b => digs.contains b) = fun b => (digitVal b).isSome := funext digs_digit
 rw [decFrom_some]
 unfold trimS trimLeftS trimRightS
 rw [e, dropWhile_nil]
 constructor
 ·intro h
  have h1 : ∀ x ∈ l.reverse.dropWhile (fun b => (digitVal b).isSome), (digitVal x).isSome = true := fun x hx => List.all_eq_true.1 h x (List.mem_reverse.2 hx)
  have h2 : l.reverse.dropWhile (fun b => (digitVal b).isSome) = [] := by
   cases hd : l.reverse.dropWhile (fun b => (digitVal b).isSome) with
   | nil => rfl
   | cons a r =>
    have := List.head_dropWhile_not (fun b => (digitVal b).isSome) (l := l.reverse) (by rw [hd]; simp)
    simp only [hd, List.head_cons] at this
    have h3 := h1 a (by rw [hd]; exact List.mem_cons_self ..)
    rw [this] at h3
    cases h3
  rw [dropWhile_nil] at h2
  rw [List.all_eq_true] at h2 ⊢
  exact fun x hx => h2 x (List.mem_reverse.2 hx)
 ·intro h
  have h2 : l.reverse.dropWhile (fun b => (digitVal b).isSome) = [] := by
   rw [dropWhile_nil, List.all_eq_true]
   exact fun x hx => List.all_eq_true.1 h x (List.mem_reverse.1 hx)
  rw [h2]
  rfl
theorem decFrom_add : ∀ (l : List UInt8) (a n : Nat), decFrom 0 l = some n → decFrom a l = some (a * 10 ^ l.length + n)
 | [], a, n, h => by
  simp only [decFrom, Option.some.injEq] at h
  subst h
  simp [decFrom]
 | b :: r, a, n, h => by
  unfold decFrom at h ⊢
  cases hd : digitVal b with
  | none => rw [hd] at h; cases h
  | some d =>
   rw [hd] at h
   simp only at h ⊢
   have hs : (decFrom 0 r).isSome = true := by
    rw [decFrom_some, ← decFrom_some r (0 * 10 + d), h]
    rfl
   obtain ⟨m, hm⟩ := Option.isSome_iff_exists.1 hs
   have h1 := decFrom_add r (0 * 10 + d) m hm
   rw [h] at h1
   rw [decFrom_add r (a * 10 + d) m hm]
   cases h1
   rw [List.length_cons, Nat.pow_succ]
   congr 1
   rw [Nat.add_mul, Nat.add_mul, Nat.mul_assoc, Nat.mul_comm 10 (10 ^ r.length)]
   omega
theorem decFrom_split (l : List UInt8) (n j k : Nat) (h : decFrom 0 l = some n) (hk : j + k ≤ l.length) :
  ∃ m p, decFrom 0 (l.take j) = some m ∧ decFrom 0 ((l.drop j).take k) = some p ∧ p < 10 ^ k ∧ decFrom 0 (l.take (j + k)) = some (m * 10 ^ k + p) := by
 have hall : (l.all fun b => (digitVal b).isSome) = true := by rw [← decFrom_some l 0, h]; rfl
 have h1 : ∀ x : List UInt8, (∀ b ∈ x, b ∈ l) → ∃ m, decFrom 0 x = some m := fun x hx => by
  refine Option.isSome_iff_exists.1 ?_
  rw [decFrom_some, List.all_eq_true]
  exact fun b hb => List.all_eq_true.1 hall b (hx b hb)
 obtain ⟨m, hm⟩ := h1 (l.take j) fun b hb => List.mem_of_mem_take hb
 obtain ⟨p, hp⟩ := h1 ((l.drop j).take k) fun b hb => List.mem_of_mem_drop (List.mem_of_mem_take hb)
 have hlen : ((l.drop j).take k).length = k := by rw [List.length_take, List.length_drop]; omega
 refine ⟨m, p, hm, hp, ?_, ?_⟩
 ·have := decFrom_lt _ _ _ hp
  rw [hlen] at this
  simpa using this
 ·rw [List.take_add]
  have h2 : ∀ (x y : List UInt8) (a b : Nat), decFrom a x = some b → decFrom a (x ++ y) = decFrom b y := by
   intro x
   induction x with
   | nil => intro y a b hb; simp only [decFrom, Option.some.injEq] at hb; subst hb; rfl
   | cons c r ih =>
    intro y a b hb
    rw [List.cons_append]
    show (match digitVal c with | some d => decFrom (a * 10 + d) (r ++ y) | none => none) = _
    have hb : (match digitVal c with | some d => decFrom (a * 10 + d) r | none => none) = some b := hb
    cases hd : digitVal c with
    | none => rw [hd] at hb; cases hb
    | some d =>
     rw [hd] at hb
     exact ih y _ b hb
  rw [h2 _ _ _ _ hm, decFrom_add _ m p hp, hlen]
theorem mul_arith (B u v c x y z p : Nat) (h5 : u + B * c = v * 1000000000 + p) (e : 4294967296 * z + y = c + x * 1000000000) : u + B * y + B * 4294967296 * z = (v + B * x) * 1000000000 + p := by
 have h : B * (4294967296 * z + y) = B * (c + x * 1000000000) := by rw [e]
 rw [Nat.mul_add, Nat.mul_add] at h
 rw [Nat.add_mul, Nat.mul_assoc B 4294967296 z, Nat.mul_assoc B x 1000000000]
 generalize B * (4294967296 * z) = s at *
 generalize B * (x * 1000000000) = t at *
 generalize B * y = r at *
 generalize B * c = q at *
 omega
theorem carry_le {c x : Nat} (hc : c ≤ 1000000000) (hx : x < 4294967296) : (c + x * 1000000000) / 4294967296 ≤ 1000000000 := by
 rw [Nat.div_le_iff_le_mul_add_pred (by omega)]
 omega
def MuQ (q : List Nat) (p : Nat) (cur : List Nat) (k c : Nat) : Prop := cur.length = q.length ∧ OkL cur ∧ c ≤ 1000000000 ∧ cur.drop k = q.drop k ∧ val (cur.take k) + 4294967296 ^ k * c = val (q.take k) * 1000000000 + p
theorem muQ_start {q : List Nat} {p : Nat} (h : OkL q) (hp : p ≤ 1000000000) : MuQ q p q 0 p := ⟨rfl, h, hp, rfl, by simp [val]⟩
theorem muQ_stepG {q cur : List Nat} {p k c y z : Nat} (h : MuQ q p cur k c) (hk : k < q.length) (hy : y < 4294967296) (hz : z ≤ 1000000000) (e : 4294967296 * z + y = c + q.getD k 0 * 1000000000) : MuQ q p (cur.set k y) (k + 1) z := by
 obtain ⟨h1, h2, h3, h4, h5⟩ := h
 have hkc : k < cur.length := by rw [h1]; exact hk
 have hks : k < (cur.set k y).length := by rw [List.length_set]; exact hkc
 refine ⟨by rw [List.length_set]; exact h1, okL_set h2 hy, hz, ?_, ?_⟩
 ·rw [List.drop_set_of_lt (Nat.lt_succ_self k)]
  have := congrArg (List.drop 1) h4
  rwa [List.drop_drop, List.drop_drop] at this
 ·have e2 : (cur.set k y).getD k 0 = y := by
   rw [List.getD_eq_getElem?_getD, List.getElem?_set_self hkc]
   rfl
  rw [val_take_succ _ k hks, val_take_succ _ k hk, List.take_set_of_le (nR _), e2, Nat.pow_succ]
  generalize q.getD k 0 = x at *
  generalize val (cur.take k) = u at *
  generalize val (q.take k) = v at *
  generalize 4294967296 ^ k = B at *
  exact mul_arith B u v c x y z p h5 e
theorem muQ_step {q cur : List Nat} {p k c : Nat} (h : MuQ q p cur k c) (hk : k < q.length) (hq : OkL q) :
  MuQ q p (cur.set k ((c + q.getD k 0 * 1000000000) % 4294967296)) (k + 1) ((c + q.getD k 0 * 1000000000) / 4294967296) :=
 muQ_stepG h hk (Nat.mod_lt _ (Nat.succ_pos _)) (carry_le h.2.2.1 (okL_get hq k)) (Nat.div_add_mod _ _)
theorem muQ_end {q cur : List Nat} {p c : Nat} (h : MuQ q p cur q.length c) : OkL (cur ++ [c]) ∧ val (cur ++ [c]) = val q * 1000000000 + p := by
 obtain ⟨h1, h2, h3, -, h5⟩ := h
 refine ⟨okL_append.2 ⟨h2, fun x hx => by rw [List.mem_singleton.1 hx]; omega⟩, ?_⟩
 rw [val_append, h1, show val [c] = c by simp [val]]
 rw [List.take_length, ← h1, List.take_length] at h5
 rw [← h5, h1]
end Go.Proofs.YtjelnmokcpoofaaGreatDoor
namespace Go.Proofs.YtjelnmokcpoofaaGreatDoor
set_option maxRecDepth 100000
open Go Go.RowKit Go.Proofs
def UpI (l : List Nat) (n : Nat) (q : List Nat) (k c : Nat) : Prop := q.length = l.length + 1 ∧ OkL q ∧ c < 2 ^ n ∧ val (q.take k) + 4294967296 ^ k * c = val (l.take k) * 2 ^ n
theorem upI_start (l : List Nat) (n : Nat) : UpI l n (List.replicate (l.length + 1) 0) 0 0 :=
 ⟨by simp, fun x hx => by rw [List.eq_of_mem_replicate hx]; omega, Nat.two_pow_pos n, by simp [val]⟩
theorem upI_step {l q : List Nat} {n k c : Nat} (h : UpI l n q k c) (hk : k < l.length) (hl : OkL l) :
  UpI l n (q.set k ((l.getD k 0 * 2 ^ n + c) % 4294967296)) (k + 1) ((l.getD k 0 * 2 ^ n + c) / 4294967296) := by
 obtain ⟨h1, h2, h3, h4⟩ := h
 have hx := okL_get hl k
 refine ⟨by simpa using h1, okL_set h2 (Nat.mod_lt _ (by omega)), ?_, ?_⟩
 ·refine Nat.div_lt_of_lt_mul ?_
  have := Nat.mul_le_mul_right (2 ^ n) (show l.getD k 0 + 1 ≤ 4294967296 from hx)
  rw [Nat.add_mul] at this
  omega
 ·rw [val_take_set _ _ _ (by omega), val_take_succ l k hk, Nat.pow_succ, Nat.add_mul, ← h4]
  have e := (Nat.mod_add_div (l.getD k 0 * 2 ^ n + c) 4294967296).symm
  generalize (l.getD k 0 * 2 ^ n + c) % 4294967296 = r at *
  generalize (l.getD k 0 * 2 ^ n + c) / 4294967296 = s at *
  generalize 4294967296 ^ k = p at *
  have e2 : p * (l.getD k 0 * 2 ^ n + c) = p * (r + 4294967296 * s) := by rw [e]
  simp only [Nat.mul_add] at e2
  rw [← Nat.mul_assoc, ← Nat.mul_assoc] at e2
  omega
theorem upI_end {l q : List Nat} {n c : Nat} (h : UpI l n q l.length c) (hn : n < 32) : (q.set l.length c).length = l.length + 1 ∧ OkL (q.set l.length c) ∧ val (q.set l.length c) = val l * 2 ^ n := by
 obtain ⟨h1, h2, h3, h4⟩ := h
 have hc : 2 ^ n ≤ 2 ^ 31 := Nat.pow_le_pow_right (by omega) (by omega)
 refine ⟨by simpa using h1, okL_set h2 (by omega), ?_⟩
 have := val_take_set q l.length c (by omega)
 rw [List.take_of_length_le (by simp; omega)] at this
 rw [this, h4, List.take_length]
theorem up_low (u c n : Nat) (hn : n < 32) (hc : c < 2 ^ n) : u * 2 ^ n % 4294967296 + c = (u * 2 ^ n + c) % 4294967296 ∧ (u * 2 ^ n) / 4294967296 = (u * 2 ^ n + c) / 4294967296 ∧ (u * 2 ^ n % 4294967296) ||| c = u * 2 ^ n % 4294967296 + c := by
 have e : (4294967296 : Nat) = 2 ^ (32 - n) * 2 ^ n := by rw [← Nat.pow_add, show 32 - n + n = 32 by omega]
 have h1 : u * 2 ^ n % 4294967296 = (u % 2 ^ (32 - n)) * 2 ^ n := by rw [e, Nat.mul_mod_mul_right]
 have hm : u % 2 ^ (32 - n) < 2 ^ (32 - n) := Nat.mod_lt _ (Nat.two_pow_pos _)
 have hlt : u * 2 ^ n % 4294967296 + c < 4294967296 := by
  rw [h1]
  have : (u % 2 ^ (32 - n) + 1) * 2 ^ n ≤ 2 ^ (32 - n) * 2 ^ n := Nat.mul_le_mul_right _ hm
  rw [← e, Nat.add_mul] at this
  omega
 have hd := Nat.div_add_mod (u * 2 ^ n) 4294967296
 refine ⟨?_, ?_, ?_⟩
 ·generalize u * 2 ^ n = x at *
  omega
 ·generalize u * 2 ^ n = x at *
  omega
 ·have h2 := Nat.shiftLeft_add_eq_or_of_lt (i := n) (b := c) hc (u % 2 ^ (32 - n))
  rw [Nat.shiftLeft_eq] at h2
  rw [h1, h2]
theorem or32n (a b : Nat) (ha : a < 4294967296) (hb : b < 4294967296) : bits .or .u32 a b = ((a ||| b : Nat) : Int) := (bits_nat .u32 32 (by decide) (fun n h₀ h₁ => by rw [IntKind.wrap_u32]; omega) a b ha hb).2
set_option maxHeartbeats 1600000 in
theorem up_c (a : Option Addr) (c n : Nat) (l : List Nat) (w : World) (hl : l.length ≤ 2147483648) (hn : n < 32) (okl : OkL l) (h : Row w a (limV l)) :
  Calls Tryz.prog 225 #[.slice a l.length c, .int .u64 n] w fun e w' => ∃ r, e = .returned (.slice (some ⟨w.heap.size, 0, none⟩) (l.length + 1) (l.length + 1)) ∧ MagO w' w.heap.size (.slice (some ⟨w.heap.size, 0, none⟩) (l.length + 1) (l.length + 1)) r ∧ OkL r ∧ r.length = l.length + 1 ∧ val r = val l * 2 ^ n ∧ Ext w w' := by
 obtain ⟨b, off, ha, hc⟩ := h
 replace ha := mK ha
 replace hc := mK hc
 have hmk := fun w => make32 (l.length + 1) w (by omega)
 rw [show (((l.length + 1 : Nat)) : Int) = (l.length : Int) + 1 by omega] at hmk
 have hst := mK (upI_start l n)
 go_enter Tryz.func225, Tryz.ntmps225
 go_wp2_with fail
 clear hmk
 go_loopw [15, 6] (fun i s wr => ∃ k cr q, k ≤ l.length ∧ i = .int .i64 (k : Nat) ∧ s = .int .u32 (cr : Nat) ∧ wr = w.alloc (.cells (limV q).toArray 140) ∧ UpI l n q k cr) (fun i _ _ => l.length - (intOf i).toNat)
 case atStart => exact ⟨0, 0, _, Nat.zero_le _, rfl, rfl, rfl, hst.out⟩
 case round =>
  clear hst
  obtain ⟨k, cr, q, hk, rfl, rfl, rfl, hui⟩ := hrel
  by_cases hlt : k < l.length
  ·have h1 := fun o => ((xR w).al o).cell (row_at hc.out hlt)
   have hA := ha.out (limV_ne hlt)
   have hu := okL_get okl k
   have hq1 := hui.1
   have hcr := hui.2.2.1
   have hold := arr_get (q := q) (k := k) (by omega)
   have hnext := upI_step hui hlt okl
   have hlow := up_low (l.getD k 0) cr n hn hcr
   have hc32 : cr < 4294967296 := Nat.lt_trans hcr (Nat.lt_of_le_of_lt (Nat.pow_le_pow_right (by omega) (show n ≤ 31 by omega)) (by omega))
   have ecast : (l.getD k 0 : Int) * 2 ^ n = ((l.getD k 0 * 2 ^ n : Nat) : Int) := by rw [Int.natCast_mul, Int.natCast_pow]; rfl
   have hbnd : l.getD k 0 * 2 ^ n < 18446744073709551616 := Nat.lt_of_lt_of_le (Nat.mul_lt_mul_of_lt_of_le hu (Nat.pow_le_pow_right (by omega) (show n ≤ 31 by omega)) (Nat.two_pow_pos _)) (by decide)
   have e1 : IntKind.u64.wrap ((l.getD k 0 : Int) * 2 ^ n) / 4294967296 % 4294967296 = (((l.getD k 0 * 2 ^ n + cr) / 4294967296 : Nat) : Int) := by
    rw [ecast, ← hlow.2.1, IntKind.wrap_u64]
    omega
   have e2 : bits .or .u32 ((l.getD k 0 : Int) * 2 ^ n % 4294967296) cr = (((l.getD k 0 * 2 ^ n + cr) % 4294967296 : Nat) : Int) := by
    rw [ecast, show ((l.getD k 0 * 2 ^ n : Nat) : Int) % 4294967296 = ((l.getD k 0 * 2 ^ n % 4294967296 : Nat) : Int) by omega, or32n _ _ (Nat.mod_lt _ (by omega)) hc32, hlow.2.2, hlow.1]
   have hset := limV_arr_set q k ((l.getD k 0 * 2 ^ n + cr) % 4294967296)
   rw [hA]
   replace hA := mK hA
   replace hui := mK hui
   clear hlow ecast hbnd
   generalize (l.getD k 0 * 2 ^ n + cr) % 4294967296 = lo at *
   generalize (l.getD k 0 * 2 ^ n + cr) / 4294967296 = hi at *
   generalize l.getD k 0 = u at *
   generalize q.getD k 0 = old at *
   replace e1 := mK e1
   replace e2 := mK e2
   replace hset := mK hset
   replace hnext := mK hnext
   generalize hArr : (limV q).toArray = arr at *
   replace hArr := mK hArr
   go_wp2_with fail
   go_roundw
   case rel => exact ⟨k + 1, hi, _, by omega, by go_num, by rw [e1.out], by rw [e2.out, hset.out], hnext.out⟩
   case measure => simp [intOf] <;> omega
  ·obtain rfl : k = l.length := by omega
   have hq1 := hui.1
   have hend := mK (upI_end hui hn)
   have hold := arr_get (q := q) (k := l.length) (by omega)
   have hset := mK (limV_arr_set q l.length cr)
   generalize q.getD l.length 0 = old at *
   replace hui := mK hui
   replace hq1 := mK hq1
   generalize hArr : (limV q).toArray = arr at *
   replace hArr := mK hArr
   go_wp2_with fail
   go_ret
   obtain ⟨x1, x2, x3⟩ := hend.out
   refine ⟨_, rfl, ?_, x2, x1, x3, (xR w).al _⟩
   rw [hset.out]
   have := magO_block (w := w) (q := q.set l.length cr) (by rw [x1]; omega)
   rw [x1] at this
   unfold MagO at this ⊢
   rw [x1] at this ⊢
   exact this
def LessI (p d : List Nat) (q k b : Nat) (r : List Nat) : Prop :=
 r.length = p.length ∧ OkL r ∧ r.drop k = p.drop k ∧ b ≤ q ∧ val (p.take k) + 4294967296 ^ k * b = val (r.take k) + q * val (d.take k)
theorem lessI_start (p d : List Nat) (q : Nat) (h : OkL p) : LessI p d q 0 0 p := ⟨rfl, h, rfl, Nat.zero_le _, by simp [val]⟩
theorem getD_of_drop {r p : List Nat} {k : Nat} (h : r.drop k = p.drop k) : r.getD k 0 = p.getD k 0 := by
 have := congrArg (fun l => l.getD 0 0) h
 simpa [List.getD_eq_getElem?_getD] using this
theorem lessI_step {p d r : List Nat} {q k b : Nat} (h : LessI p d q k b r) (hk : k < p.length) (hkd : k < d.length) (hd : OkL d)
  (x lo hi b' y : Nat) (hx : x = p.getD k 0) (hs : b + q * d.getD k 0 = 4294967296 * hi + lo) (hy : y < 4294967296) (hb : x + 4294967296 * b' = y + lo + 4294967296 * hi) :
  LessI p d q (k + 1) b' (r.set k y) := by
 obtain ⟨h1, h2, h3, h4, h5⟩ := h
 have e1 := val_take_succ p k hk
 have e2 := val_take_succ d k hkd
 have e3 := val_take_set r k y (by omega)
 rw [← hx] at e1
 have hr : OkL (r.set k y) := okL_set h2 hy
 have inv : val (p.take (k + 1)) + 4294967296 ^ (k + 1) * b' = val ((r.set k y).take (k + 1)) + q * val (d.take (k + 1)) := by
  rw [e1, e2, e3, Nat.pow_succ]
  generalize 4294967296 ^ k = P at *
  generalize d.getD k 0 = v at *
  have m1 : P * (x + 4294967296 * b') = P * (y + (b + q * v)) := by rw [hb, hs]; congr 1; omega
  clear e1 e2 e3 hb hs
  grind
 refine ⟨by simpa using h1, hr, ?_, ?_, inv⟩
 ·rw [List.drop_set_of_lt (by omega)]
  have := congrArg (List.drop 1) h3
  simpa [List.drop_drop, Nat.add_comm] using this
 ·have l1 := val_lt (okL_take hr (k + 1))
  have l2 := val_lt (okL_take hd (k + 1))
  have n1 : ((r.set k y).take (k + 1)).length = k + 1 := by rw [List.length_take, List.length_set]; omega
  have n2 : (d.take (k + 1)).length = k + 1 := by rw [List.length_take]; omega
  rw [n1] at l1
  rw [n2] at l2
  generalize 4294967296 ^ (k + 1) = P at *
  have m1 : q * val (d.take (k + 1)) ≤ q * P := Nat.mul_le_mul_left _ (Nat.le_of_lt l2)
  have m2 : P * b' < P * (q + 1) := by
   rw [Nat.mul_add, Nat.mul_one, Nat.mul_comm P q]
   omega
  have := Nat.lt_of_mul_lt_mul_left m2
  omega
def LessR (p d : List Nat) (q : Nat) (neg : Bool) (r : List Nat) : Prop :=
 r.length = p.length ∧ OkL r ∧ neg = decide (val p < q * val d) ∧ val p + (if neg then 4294967296 ^ p.length else 0) = val r + q * val d
theorem lessI_end {p d r : List Nat} {q b : Nat} (h : LessI p d q d.length b r) (hl : p.length = d.length + 1) (y : Nat) (neg : Bool) (hy : y < 4294967296)
  (hb : p.getD d.length 0 + (if neg then 4294967296 else 0) = y + b) : LessR p d q neg (r.set d.length y) := by
 obtain ⟨h1, h2, h3, h4, h5⟩ := h
 have hr : OkL (r.set d.length y) := okL_set h2 hy
 have e1 := val_take_succ p d.length (by omega)
 have e3 := val_take_set r d.length y (by omega)
 rw [List.take_of_length_le (by omega)] at e1
 rw [List.take_of_length_le (by rw [List.length_set]; omega)] at e3
 rw [List.take_length] at h5
 have inv : val p + (if neg then 4294967296 ^ p.length else 0) = val (r.set d.length y) + q * val d := by
  rw [e1, e3, hl, Nat.pow_succ]
  generalize 4294967296 ^ d.length = P at *
  generalize p.getD d.length 0 = x at *
  cases neg with
  | true =>
   simp only [if_true] at hb ⊢
   have m1 : P * (x + 4294967296) = P * (y + b) := by rw [hb]
   simp only [Nat.mul_add] at m1
   omega
  | false =>
   simp only [Bool.false_eq_true, if_false, Nat.add_zero] at hb ⊢
   have m1 : P * x = P * (y + b) := by rw [hb]
   simp only [Nat.mul_add] at m1
   omega
 refine ⟨by simpa using h1, hr, ?_, inv⟩
 have l1 := val_lt hr
 rw [List.length_set, h1] at l1
 cases neg with
 | true =>
  simp only [if_true] at inv
  have : val p < q * val d := by omega
  simp [this]
 | false =>
  simp only [Bool.false_eq_true, if_false, Nat.add_zero] at inv
  have : ¬ val p < q * val d := by omega
  simp [this]
theorem limV_at {l : List Nat} {j : Nat} (h : j < l.length) : (limV l)[j]? = some (.int .u32 ((l.getD j 0 : Nat) : Int)) := by simp [limV, h]
theorem set_mid (pre p post : List Nat) (k v : Nat) (hk : k < p.length) : (pre ++ p ++ post).set (pre.length + k) v = pre ++ p.set k v ++ post := by
 rw [List.append_assoc, List.set_append_right _ _ (by omega), Nat.add_sub_cancel_left, List.set_append_left _ _ hk, ← List.append_assoc]
theorem getD_mid (pre p post : List Nat) (k : Nat) (hk : k < p.length) : (pre ++ p ++ post).getD (pre.length + k) 0 = p.getD k 0 := by
 simp only [List.getD_eq_getElem?_getD]
 rw [List.append_assoc, List.getElem?_append_right (by omega), Nat.add_sub_cancel_left, List.getElem?_append_left hk]
theorem lt_of_cell {w : World} {a : Addr} {v : Value} (hv : w.cell? a = some v) : a.block < w.heap.size := by
 unfold World.cell? at hv
 split at hv
 ·rename_i he
  exact (Array.getElem?_eq_some_iff.1 he).1
 ·cases hv
def Drw (w w' : World) : Prop := ∃ n, w' = w.drewN n
theorem Drw.trans {a b c : World} (h : Drw a b) (k : Drw b c) : Drw a c := by
 obtain ⟨n, rfl⟩ := h
 obtain ⟨m, rfl⟩ := k
 exact ⟨_, World.drewN_drewN ..⟩
theorem Drw.cell {w w' : World} (h : Drw w w') (a : Addr) : w'.cell? a = w.cell? a := cell_drew h a
theorem Drw.ext {w w' : World} (h : Drw w w') : Ext w w' := by
 obtain ⟨n, rfl⟩ := h
 exact (xR w).drN n
theorem Drw.heap {w w' : World} (h : Drw w w') : w'.heap = w.heap := by
 obtain ⟨n, rfl⟩ := h
 rfl
theorem ownsRow_heap {w w' : World} (h : w'.heap = w.heap) {base E sz n : Nat} {v : Value} {xs : List Value} (ho : w.ownsRow base E sz v n xs) : w'.ownsRow base E sz v n xs := by
 unfold World.ownsRow at *
 rw [h]
 exact ho
theorem owns_cell {w : World} {base E g n cap : Nat} {xs : List Value} (h : w.ownsRow base E 1 (.slice (some ⟨g, 0, none⟩) n cap) n xs) {j : Nat} (hj : j < n) : ∃ old, w.cell? ⟨g, j, none⟩ = some old := by
 have hl := h.1
 exact ⟨_, (h.cellAt j (by omega)).trans (List.getElem?_eq_getElem (by omega))⟩
theorem less_bounds {q v b : Nat} (hq : q < 4294967296) (hv : v < 4294967296) (hb : b ≤ q) : 0 ≤ (q : Int) * v ∧ (q : Int) * v ≤ 18446744065119617025 ∧ (b : Int) + (q : Int) * v ≤ 18446744073709551615 := by
 have h : q * v ≤ 4294967295 * 4294967295 := Nat.mul_le_mul (by omega) (by omega)
 have e : (q : Int) * v = ((q * v : Nat) : Int) := by simp
 rw [e]
 omega
set_option maxHeartbeats 3200000 in
theorem less_c (base g gd off n cap c m md _cd q : Nat) (pre p post d : List Nat) (w : World) (hpre : pre.length = off) (hp : p.length = m + 1) (hd : d.length = m) (hn : n ≤ 4294967296) (hlen : off + (m + 1) + post.length = n) (_hcap : m + 1 ≤ c) (okd : OkL d) (okp : OkL p) (hq : q < 4294967296) (hgd : gd ≠ g)
  (ho : w.ownsRow base 140 1 (.slice (some ⟨g, 0, none⟩) n cap) n (limV (pre ++ p ++ post))) (hdr : ∀ j, j < m → w.cell? ⟨gd, j, none⟩ = some (.int .u32 (d.getD j 0 : Nat))) :
  Calls Tryz.prog 226 #[.slice (some ⟨g, off, none⟩) (m + 1) c, .slice (some ⟨gd, 0, none⟩) m md, .int .u64 q] w fun e w' => ∃ r neg, e = .returned (.bool neg) ∧ LessR p d q neg r ∧
   w'.ownsRow base 140 1 (.slice (some ⟨g, 0, none⟩) n cap) n (limV (pre ++ r ++ post)) ∧ w.grownBy w' (some g) := by
 have hst := mK (lessI_start p d q okp)
 replace ho := mK ho
 replace hdr := mK hdr
 replace hp := mK hp
 replace hd := mK hd
 replace hpre := mK hpre
 go_enter Tryz.func226, Tryz.ntmps226
 go_wp2_with fail
 go_loopw [14, 7] (fun i s wr => ∃ k b r, k ≤ m ∧ i = .int .i64 (k : Nat) ∧ s = .int .u64 (b : Nat) ∧ LessI p d q k b r ∧ wr.ownsRow base 140 1 (.slice (some ⟨g, 0, none⟩) n cap) n (limV (pre ++ r ++ post)) ∧ w.grownBy wr (some g)) (fun i _ _ => m - (intOf i).toNat)
 case atStart => exact ⟨0, 0, p, Nat.zero_le _, rfl, rfl, hst.out, ho.out, World.grownBy.refl _ _⟩
 case round =>
  clear hst ho
  obtain ⟨k, b, r, hk, rfl, rfl, hli, ho, hgr⟩ := hrel
  by_cases hlt : k < m
  ·have hrl : r.length = m + 1 := by rw [hli.1, hp.out]
   have hdk : wr.cell? ⟨gd, k, none⟩ = some (.int .u32 (d.getD k 0 : Nat)) := by
    have h1 := hdr.out k hlt
    rw [hgr.cell_far _ (lt_of_cell h1) (fun e => hgd (by simpa using e))]
    exact h1
   have hx : r.getD k 0 = p.getD k 0 := getD_of_drop hli.2.2.1
   have hcell : wr.cell? ⟨g, off + k, none⟩ = some (.int .u32 (p.getD k 0 : Nat)) := by
    rw [ho.cellAt (off + k) (by omega), ← hx, ← hpre.out, ← getD_mid pre r post k (by omega)]
    exact limV_at (by simp; omega)
   have hfz := ho.frozenAt (off + k)
   have hv := okL_get okd k
   have hxl := okL_get okp k
   have hb := hli.2.2.2.1
   have hbd := less_bounds hq hv hb
   have hnext := fun lo hi b' y h1 h2 h3 => lessI_step hli (by rw [hp.out]; omega) (by rw [hd.out]; exact hlt) okd (p.getD k 0) lo hi b' y rfl h1 h2 h3
   generalize p.getD k 0 = x at *
   generalize d.getD k 0 = v at *
   clear hx
   obtain ⟨S, hS⟩ : ∃ S, S = b + q * v := ⟨_, rfl⟩
   have eS : (b : Int) + (q : Int) * v = (S : Int) := by rw [hS]; simp
   have hSl : S < 18446744073709551616 := by omega
   obtain ⟨Y, hY⟩ : ∃ Y, Y = (x + 4294967296 - S % 4294967296) % 4294967296 := ⟨_, rfl⟩
   obtain ⟨B', hB'⟩ : ∃ B', B' = S / 4294967296 + (if x < S % 4294967296 then 1 else 0) := ⟨_, rfl⟩
   have f1 : IntKind.u64.wrap ((x : Int) - ((b : Int) + (q : Int) * v) % 4294967296) % 4294967296 = (Y : Int) := by
    rw [eS, hY, IntKind.wrap_u64]
    omega
   have f2 : IntKind.u64.wrap (((b : Int) + (q : Int) * v) / 4294967296 + IntKind.u64.wrap ((x : Int) - ((b : Int) + (q : Int) * v) % 4294967296) / 9223372036854775808) = (B' : Int) := by
    rw [eS, hB', IntKind.wrap_u64, IntKind.wrap_u64]
    split <;> omega
   have hn2 := hnext (S % 4294967296) (S / 4294967296) B' Y (by rw [← hS]; omega) (by rw [hY]; omega) (by rw [hY, hB']; split <;> omega)
   obtain ⟨hs1, hs2⟩ := ho.stored (off + k) (.int .u32 (Y : Nat))
   rw [limV_set, ← hpre.out, set_mid pre r post k Y (by omega), hpre.out] at hs1
   replace hs2 := hgr.trans hs2
   replace hs1 := mK hs1
   replace hs2 := mK hs2
   replace f1 := mK f1
   replace f2 := mK f2
   replace hn2 := mK hn2
   replace hS := mK hS
   replace eS := mK eS
   replace hY := mK hY
   replace hB' := mK hB'
   clear hnext
   replace hli := mK hli
   replace ho := mK ho
   replace hgr := mK hgr
   go_wp2_with fail
   go_roundw
   case rel =>
    refine ⟨k + 1, B', r.set k Y, by omega, by go_num, by rw [f2.out], hn2.out, ?_, ?_⟩
    ·rw [f1.out]; exact hs1.out
    ·rw [f1.out]; exact hs2.out
   case measure => simp [intOf] <;> omega
  ·obtain rfl : m = k := by omega
   clear hlt hk
   have hrl : r.length = m + 1 := by rw [hli.1, hp.out]
   have hx : r.getD m 0 = p.getD m 0 := getD_of_drop hli.2.2.1
   have hcell : wr.cell? ⟨g, off + m, none⟩ = some (.int .u32 (p.getD m 0 : Nat)) := by
    rw [ho.cellAt (off + m) (by omega), ← hx, ← hpre.out, ← getD_mid pre r post m (by omega)]
    exact limV_at (by simp; omega)
   have hfz := ho.frozenAt (off + m)
   have hxl := okL_get okp m
   have hb := hli.2.2.2.1
   have hend := fun y neg h1 h2 => lessI_end (hd.out ▸ hli) (by rw [hp.out, hd.out]) y neg h1 h2
   rw [hd.out] at hend
   generalize p.getD m 0 = x at *
   clear hx
   obtain ⟨Y, hY⟩ : ∃ Y, Y = (x + 4294967296 - b) % 4294967296 := ⟨_, rfl⟩
   have f1 : IntKind.u64.wrap ((x : Int) - b) % 4294967296 = (Y : Int) := by rw [hY, IntKind.wrap_u64]; omega
   have f2 : ((IntKind.u64.wrap ((x : Int) - b) / 9223372036854775808) == 1) = decide (x < b) := by
    rw [Bool.eq_iff_iff, beq_iff_eq, decide_eq_true_iff, IntKind.wrap_u64]
    omega
   have hR := hend Y (decide (x < b)) (by rw [hY]; omega) (by
    by_cases h : x < b
    ·rw [decide_eq_true h, if_pos rfl, hY]; omega
    ·rw [decide_eq_false h, if_neg (by simp), hY]; omega)
   obtain ⟨hs1, hs2⟩ := ho.stored (off + m) (.int .u32 (Y : Nat))
   rw [limV_set, ← hpre.out, set_mid pre r post m Y (by omega), hpre.out] at hs1
   replace hs2 := hgr.trans hs2
   replace hs1 := mK hs1
   replace hs2 := mK hs2
   replace f1 := mK f1
   replace f2 := mK f2
   replace hR := mK hR
   replace hY := mK hY
   clear hend
   replace hli := mK hli
   replace ho := mK ho
   replace hgr := mK hgr
   go_wp2_with fail
   go_ret
   refine ⟨r.set m Y, decide (x < b), by rw [← f2.out]; rfl, hR.out, ?_, ?_⟩
   ·rw [f1.out]; exact hs1.out
   ·rw [f1.out]; exact hs2.out
theorem guess_start {P D v1 hd C : Nat} (hv : 0 < v1) (hP : P < (hd + 1) * C) (hD : v1 * C ≤ D) : P / D ≤ hd / v1 := by
 rw [Nat.le_div_iff_mul_le hv]
 have h1 : P / D * D ≤ P := Nat.div_mul_le_self P D
 have h2 : P / D * (v1 * C) ≤ P / D * D := Nat.mul_le_mul_left _ hD
 have h3 : P / D * v1 * C < (hd + 1) * C := by rw [Nat.mul_assoc]; omega
 have := Nat.lt_of_mul_lt_mul_right h3
 omega
theorem guess_dec {P D v1 v2 hd u2 W B g r : Nat} (hB : P / D < B) (hW : 0 < W) (hP : P < (hd * B + u2 + 1) * W) (hD : (v1 * B + v2) * W ≤ D) (hg : P / D ≤ g) (he : g * v1 + r = hd)
  (hc : B ≤ g ∨ r * B + u2 < g * v2) : 1 ≤ g ∧ P / D ≤ g - 1 ∧ (g - 1) * v1 + (r + v1) = hd := by
 have h1 : P / D < g := by
  rcases hc with h | h
  ·omega
  ·have hD0 : 0 < D := by
    rcases Nat.eq_zero_or_pos D with h0 | h0
    ·subst h0
     have hz : (v1 * B + v2) * W = 0 := by omega
     rcases Nat.mul_eq_zero.1 hz with h2 | h2
     ·have : v2 = 0 := by omega
      subst this
      omega
     ·omega
    ·exact h0
   rw [Nat.div_lt_iff_lt_mul hD0]
   have h2 : hd * B + u2 + 1 ≤ g * (v1 * B + v2) := by
    rw [← he, Nat.add_mul, Nat.mul_add, ← Nat.mul_assoc]
    omega
   have h3 : (hd * B + u2 + 1) * W ≤ g * (v1 * B + v2) * W := Nat.mul_le_mul_right _ h2
   have h4 : g * ((v1 * B + v2) * W) ≤ g * D := Nat.mul_le_mul_left _ hD
   rw [← Nat.mul_assoc] at h4
   omega
 generalize P / D = qd at *
 obtain ⟨k, rfl⟩ : ∃ k, g = k + 1 := ⟨g - 1, by omega⟩
 refine ⟨by omega, by omega, ?_⟩
 rw [Nat.add_sub_cancel]
 rw [Nat.add_mul] at he
 omega
theorem guess_end {P D v1 v2 hd u2 W B g r Dr : Nat} (hD0 : 0 < D) (hP : (hd * B + u2) * W ≤ P) (hD : D = (v1 * B + v2) * W + Dr) (hDr : Dr < W) (hv : 0 < v1) (he : g * v1 + r = hd) (hgB : g < B) (hc : g * v2 ≤ r * B + u2) : g ≤ P / D + 1 := by
 rcases Nat.eq_zero_or_pos g with h0 | h0
 ·rw [h0]
  exact Nat.zero_le _
 ·obtain ⟨k, rfl⟩ : ∃ k, g = k + 1 := ⟨g - 1, by omega⟩
  have : k ≤ P / D := by
   rw [Nat.le_div_iff_mul_le hD0]
   have h2 : (k + 1) * (v1 * B + v2) ≤ hd * B + u2 := by
    rw [← he, Nat.add_mul ((k + 1) * v1), Nat.mul_add (k + 1), ← Nat.mul_assoc]
    omega
   have h3 : (k + 1) * (v1 * B + v2) * W ≤ (hd * B + u2) * W := Nat.mul_le_mul_right _ h2
   have h4 : (k + 1) * Dr ≤ B * W := Nat.mul_le_mul (Nat.le_of_lt hgB) (Nat.le_of_lt hDr)
   have h5 : B * W ≤ v1 * B * W := by
    have := Nat.mul_le_mul_right (B * W) (show 1 ≤ v1 from hv)
    rw [Nat.one_mul, ← Nat.mul_assoc] at this
    exact this
   have h6 : v1 * B * W ≤ (v1 * B + v2) * W := Nat.mul_le_mul_right _ (by omega)
   have h7 : (k + 1) * D = (k + 1) * (v1 * B + v2) * W + (k + 1) * Dr := by
    rw [hD, Nat.mul_add, ← Nat.mul_assoc]
   rw [Nat.add_mul, Nat.one_mul] at h7
   omega
  exact Nat.succ_le_succ this
def DivI (m D L nl nq : Nat) (i : Nat) (l q : List Nat) : Prop :=
 l.length = nl ∧ q.length = nq ∧ OkL l ∧ OkL q ∧ val l + D * val q = L ∧ val (l.drop i) < D ∧ (∀ j, j < i → q.getD j 0 = 0) ∧ D < 4294967296 ^ m
def partL (l : List Nat) (i m : Nat) : List Nat := (l.drop i).take (m + 1)
theorem part_split (l : List Nat) (i m : Nat) : l = l.take i ++ partL l i m ++ l.drop (i + (m + 1)) := by
 unfold partL
 rw [List.append_assoc, ← List.drop_drop, List.take_append_drop, List.take_append_drop]
theorem partL_length {l : List Nat} {i m : Nat} (h : i + (m + 1) ≤ l.length) : (partL l i m).length = m + 1 := by
 unfold partL
 rw [List.length_take, List.length_drop]
 omega
theorem partL_ok {l : List Nat} (h : OkL l) (i m : Nat) : OkL (partL l i m) := okL_take (okL_drop h i) _
theorem part_val {m D L nl nq i : Nat} {l q : List Nat} (h : DivI m D L nl nq (i + 1) l q) (hi : i + (m + 1) ≤ nl) :
  val (l.drop (i + (m + 1))) = 0 ∧ val (partL l i m) < 4294967296 * D ∧ val l = val (l.take i) + 4294967296 ^ i * val (partL l i m) := by
 obtain ⟨h1, h2, h3, h4, h5, h6, h7, h8⟩ := h
 have hil : i < l.length := by omega
 have e1 : l.drop i = l.getD i 0 :: l.drop (i + 1) := by rw [List.drop_eq_getElem_cons hil]; simp [hil]
 have hx := okL_get h3 i
 have e2 : partL l i m = l.getD i 0 :: (l.drop (i + 1)).take m := by unfold partL; rw [e1, List.take_succ_cons]
 have hm : ((l.drop (i + 1)).take m).length = m := by rw [List.length_take, List.length_drop]; omega
 have e3 := val_drop (l.drop (i + 1)) m
 rw [hm, List.drop_drop, show i + 1 + m = i + (m + 1) by omega] at e3
 have hz : val (l.drop (i + (m + 1))) = 0 := by
  rcases Nat.eq_zero_or_pos (val (l.drop (i + (m + 1)))) with h0 | h0
  ·exact h0
  ·have := Nat.mul_le_mul_left (4294967296 ^ m) h0
   omega
 rw [hz] at e3
 have e4 := val_drop l i
 have e5 := val_drop (l.drop i) (m + 1)
 rw [List.drop_drop, hz, Nat.mul_zero, Nat.add_zero] at e5
 have ht : (l.take i).length = i := by rw [List.length_take]; omega
 rw [ht, e5] at e4
 refine ⟨hz, ?_, e4⟩
 rw [e2]
 simp only [val]
 omega
theorem divI_step {m D L nl nq i : Nat} {l q p' : List Nat} (h : DivI m D L nl nq (i + 1) l q) (hi : i + (m + 1) ≤ nl) (hq : i < nq) (hp : OkL p') (hpl : p'.length = m + 1) (hv : val p' = val (partL l i m) % D) (hD0 : 0 < D) :
  DivI m D L nl nq i (l.take i ++ p' ++ l.drop (i + (m + 1))) (q.set i (val (partL l i m) / D)) := by
 obtain ⟨hz, hlt, hl⟩ := part_val h hi
 obtain ⟨h1, h2, h3, h4, h5, h6, h7, h8⟩ := h
 have ht : (l.take i).length = i := by rw [List.length_take]; omega
 have hqd : val (partL l i m) / D < 4294967296 := by rw [Nat.div_lt_iff_lt_mul hD0]; exact hlt
 have vs := val_set (l := q) (j := i) (by omega) (val (partL l i m) / D)
 rw [h7 i (by omega), Nat.mul_zero, Nat.add_zero] at vs
 have vl : val (l.take i ++ p' ++ l.drop (i + (m + 1))) = val (l.take i) + 4294967296 ^ i * val p' := by
  rw [List.append_assoc, val_append, val_append, hz, ht, Nat.mul_zero, Nat.add_zero]
 refine ⟨?_, by simpa using h2, ?_, okL_set h4 hqd, ?_, ?_, ?_, h8⟩
 ·simp [List.length_take, hpl]; omega
 ·rw [okL_append, okL_append]
  exact ⟨⟨okL_take h3 _, hp⟩, okL_drop h3 _⟩
 ·rw [vl, vs, hv, ← h5, hl]
  have e := Nat.div_add_mod (val (partL l i m)) D
  generalize val (partL l i m) / D = a at *
  generalize val (partL l i m) % D = b at *
  rw [← e]
  generalize 4294967296 ^ i = P
  grind
 ·rw [List.append_assoc, List.drop_append_of_le_length (by omega), List.drop_of_length_le (by omega), List.nil_append, val_append, hz, hv, Nat.mul_zero, Nat.add_zero]
  exact Nat.mod_lt _ hD0
 ·intro j hj
  have := h7 j (by omega)
  simpa [List.getD_eq_getElem?_getD, List.getElem?_set_ne (show i ≠ j by omega)] using this
def AddB (p d : List Nat) (k c : Nat) (r : List Nat) : Prop :=
 r.length = p.length ∧ OkL r ∧ r.drop k = p.drop k ∧ c ≤ 1 ∧ val (p.take k) + val (d.take k) = val (r.take k) + 4294967296 ^ k * c
theorem addB_start (p d : List Nat) (h : OkL p) : AddB p d 0 0 p := ⟨rfl, h, rfl, by omega, by simp [val]⟩
theorem addB_step {p d r : List Nat} {k c : Nat} (h : AddB p d k c r) (hk : k < p.length) (hkd : k < d.length) (hp : OkL p) (hd : OkL d) :
  AddB p d (k + 1) ((p.getD k 0 + d.getD k 0 + c) / 4294967296) (r.set k ((p.getD k 0 + d.getD k 0 + c) % 4294967296)) := by
 obtain ⟨h1, h2, h3, h4, h5⟩ := h
 have e1 := val_take_succ p k hk
 have e2 := val_take_succ d k hkd
 have e3 := val_take_set r k ((p.getD k 0 + d.getD k 0 + c) % 4294967296) (by omega)
 have hx := okL_get hp k
 have hy := okL_get hd k
 refine ⟨by simpa using h1, okL_set h2 (Nat.mod_lt _ (by omega)), ?_, by omega, ?_⟩
 ·rw [List.drop_set_of_lt (by omega)]
  have := congrArg (List.drop 1) h3
  simpa [List.drop_drop, Nat.add_comm] using this
 ·rw [e1, e2, e3, Nat.pow_succ]
  have e := Nat.mod_add_div (p.getD k 0 + d.getD k 0 + c) 4294967296
  generalize (p.getD k 0 + d.getD k 0 + c) % 4294967296 = lo at *
  generalize (p.getD k 0 + d.getD k 0 + c) / 4294967296 = hi at *
  generalize p.getD k 0 = x at *
  generalize d.getD k 0 = y at *
  generalize 4294967296 ^ k = P at *
  clear e1 e2 e3 hx hy hp hd hk hkd h1 h2 h3
  have m1 : P * (lo + 4294967296 * hi) = P * (x + y + c) := by rw [e]
  grind
theorem addB_end {p d r : List Nat} {c m : Nat} (h : AddB p d m c r) (hd : d.length = m) (hl : p.length = m + 1) (y : Nat) (hy : y = (p.getD m 0 + c) % 4294967296) :
  (r.set m y).length = m + 1 ∧ OkL (r.set m y) ∧ (val (r.set m y) = val p + val d ∨ val (r.set m y) + 4294967296 ^ (m + 1) = val p + val d) := by
 obtain ⟨h1, h2, h3, h4, h5⟩ := h
 have hy2 : y < 4294967296 := by omega
 have e1 := val_take_succ p m (by omega)
 have e3 := val_take_set r m y (by omega)
 have hx : p.getD m 0 < 4294967296 ∨ 4294967296 ≤ p.getD m 0 := by omega
 rw [List.take_of_length_le (by omega)] at e1
 rw [List.take_of_length_le (by rw [List.length_set]; omega)] at e3
 rw [List.take_of_length_le (by omega : d.length ≤ m)] at h5
 have hxl : r.getD m 0 < 4294967296 := okL_get h2 m
 have hxe : r.getD m 0 = p.getD m 0 := getD_of_drop h3
 rw [hxe] at hxl
 refine ⟨by simp; omega, okL_set h2 hy2, ?_⟩
 rw [e1, e3, Nat.pow_succ]
 generalize p.getD m 0 = x at *
 generalize 4294967296 ^ m = P at *
 rcases Nat.lt_or_ge (x + c) 4294967296 with h | h
 ·left
  have : y = x + c := by omega
  rw [this, Nat.mul_add]
  omega
 ·right
  have : y + 4294967296 = x + c := by omega
  have m1 : P * (y + 4294967296) = P * (x + c) := by rw [this]
  rw [Nat.mul_add, Nat.mul_add] at m1
  omega
theorem back_val {P D g M A B : Nat} (hneg : P + M = A + g * D) (hlt : P < g * D) (hg : g ≤ P / D + 1) (hD : 0 < D) (hr : B < M) (h : B = A + D ∨ B + M = A + D) : g - 1 = P / D ∧ B = P % D := by
 have e := Nat.div_add_mod P D
 have hm := Nat.mod_lt P hD
 generalize P / D = q at *
 generalize P % D = r at *
 have hgq : q < g := by
  rcases Nat.lt_or_ge q g with h1 | h1
  ·exact h1
  ·have := Nat.mul_le_mul_right D h1
   rw [Nat.mul_comm q D] at this
   omega
 obtain rfl : g = q + 1 := by omega
 refine ⟨by omega, ?_⟩
 rw [Nat.add_mul, Nat.one_mul, Nat.mul_comm q D] at hneg
 rcases h with h | h
 ·omega
 ·omega
theorem less_val {P D g A : Nat} (h : P = A + g * D) (hq : P / D ≤ g) (hD : 0 < D) : g = P / D ∧ A = P % D := by
 have e := Nat.div_add_mod P D
 have hm := Nat.mod_lt P hD
 have h1 : g ≤ P / D := by rw [Nat.le_div_iff_mul_le hD]; omega
 have h2 : g = P / D := Nat.le_antisymm h1 hq
 refine ⟨h2, ?_⟩
 rw [← h2, Nat.mul_comm] at e
 omega
def ShiftI (l : List Nat) (n k : Nat) (r : List Nat) : Prop :=
 r.length = l.length ∧ OkL r ∧ r.drop k = l.drop k ∧ val (r.take k) = val l / 2 ^ n % 4294967296 ^ k
theorem shiftI_start (l : List Nat) (n : Nat) (h : OkL l) : ShiftI l n 0 l := ⟨rfl, h, rfl, by simp [val, Nat.mod_one]⟩
theorem shift_limb (l : List Nat) (n k : Nat) (hn : n < 32) (hk : k < l.length) : val l / 2 ^ n / 4294967296 ^ k % 4294967296 = (l.getD (k + 1) 0 * 4294967296 + l.getD k 0) / 2 ^ n % 4294967296 ∨ ¬ OkL l := by
 by_cases ok : OkL l
 ·left
  have h1 := val_drop l k
  have ht : (l.take k).length = k := by rw [List.length_take]; omega
  rw [ht] at h1
  have hlt := val_lt (okL_take ok k)
  rw [ht] at hlt
  have e1 : val l / 4294967296 ^ k = val (l.drop k) := by
   rw [h1, Nat.add_mul_div_left _ _ (by exact Nat.pow_pos (by omega)), Nat.div_eq_of_lt hlt, Nat.zero_add]
  rw [Nat.div_div_eq_div_mul, Nat.mul_comm, ← Nat.div_div_eq_div_mul, e1, val_drop_succ l k hk]
  obtain ⟨rest, hr⟩ : ∃ rest, val (l.drop (k + 1)) = l.getD (k + 1) 0 + 4294967296 * rest := by
   by_cases h2 : k + 1 < l.length
   ·exact ⟨_, val_drop_succ l (k + 1) h2⟩
   ·refine ⟨0, ?_⟩
    rw [List.drop_of_length_le (by omega)]
    simp [val, List.getD_eq_getElem?_getD, List.getElem?_eq_none (show l.length ≤ k + 1 by omega)]
  rw [hr]
  have hp : (4294967296 : Nat) = 2 ^ n * 2 ^ (32 - n) := by rw [← Nat.pow_add, show n + (32 - n) = 32 by omega]
  have e2 : l.getD k 0 + 4294967296 * (l.getD (k + 1) 0 + 4294967296 * rest) = (l.getD (k + 1) 0 * 4294967296 + l.getD k 0) + 2 ^ n * (4294967296 * (2 ^ (32 - n) * rest)) := by
   have : 2 ^ n * (4294967296 * (2 ^ (32 - n) * rest)) = (2 ^ n * 2 ^ (32 - n)) * 4294967296 * rest := by grind
   rw [this, ← hp]
   omega
  rw [e2, Nat.add_mul_div_left _ _ (Nat.two_pow_pos n), Nat.add_mul_mod_self_left]
 ·exact .inr ok
theorem shiftI_step {l r : List Nat} {n k : Nat} (h : ShiftI l n k r) (hk : k < l.length) (hl : OkL l) (hn : n < 32) :
  ShiftI l n (k + 1) (r.set k ((l.getD (k + 1) 0 * 4294967296 + l.getD k 0) / 2 ^ n % 4294967296)) := by
 obtain ⟨h1, h2, h3, h4⟩ := h
 have e3 := val_take_set r k ((l.getD (k + 1) 0 * 4294967296 + l.getD k 0) / 2 ^ n % 4294967296) (by omega)
 refine ⟨by simpa using h1, okL_set h2 (Nat.mod_lt _ (by omega)), ?_, ?_⟩
 ·rw [List.drop_set_of_lt (by omega)]
  have := congrArg (List.drop 1) h3
  simpa [List.drop_drop, Nat.add_comm] using this
 ·rcases shift_limb l n k hn hk with h5 | h5
  ·rw [e3, h4, ← h5, Nat.pow_succ, Nat.mod_mul]
  ·exact absurd hl h5
theorem shiftI_end {l r : List Nat} {n : Nat} (h : ShiftI l n l.length r) (hl : OkL l) : r.length = l.length ∧ OkL r ∧ val r = val l / 2 ^ n := by
 obtain ⟨h1, h2, h3, h4⟩ := h
 refine ⟨h1, h2, ?_⟩
 rw [List.take_of_length_le (by omega)] at h4
 rw [h4, Nat.mod_eq_of_lt (Nat.lt_of_le_of_lt (Nat.div_le_self _ _) (val_lt hl))]
theorem val_top3 {l : List Nat} {k : Nat} (hl : OkL l) (h : l.length = k + 3) : ∃ r, r < 4294967296 ^ k ∧ val l = ((l.getD (k + 2) 0 * 4294967296 + l.getD (k + 1) 0) * 4294967296 + l.getD k 0) * 4294967296 ^ k + r := by
 have e1 := val_take_succ l (k + 2) (by omega)
 have e2 := val_take_succ l (k + 1) (by omega)
 have e3 := val_take_succ l k (by omega)
 rw [List.take_of_length_le (by omega : l.length ≤ k + 2 + 1)] at e1
 have hr := val_lt (okL_take hl k)
 have ht : (l.take k).length = k := by rw [List.length_take]; omega
 rw [ht] at hr
 refine ⟨val (l.take k), hr, ?_⟩
 rw [e1, e2, e3, Nat.pow_succ, Nat.pow_succ]
 grind
theorem val_top2 {l : List Nat} {k : Nat} (hl : OkL l) (h : l.length = k + 2) : ∃ r, r < 4294967296 ^ k ∧ val l = (l.getD (k + 1) 0 * 4294967296 + l.getD k 0) * 4294967296 ^ k + r := by
 have e2 := val_take_succ l (k + 1) (by omega)
 have e3 := val_take_succ l k (by omega)
 rw [List.take_of_length_le (by omega : l.length ≤ k + 1 + 1)] at e2
 have hr := val_lt (okL_take hl k)
 have ht : (l.take k).length = k := by rw [List.length_take]; omega
 rw [ht] at hr
 refine ⟨val (l.take k), hr, ?_⟩
 rw [e2, e3, Nat.pow_succ]
 grind
theorem partL_getD {l : List Nat} {i m j : Nat} (h : j < m + 1) : (partL l i m).getD j 0 = l.getD (i + j) 0 := by
 unfold partL
 simp [List.getD_eq_getElem?_getD, h]
def GuessI (P D v1 hd g r : Nat) : Prop := P / D ≤ g ∧ g * v1 + r = hd
def GuessR (P D g : Nat) : Prop := P / D ≤ g ∧ g ≤ P / D + 1 ∧ g < 4294967296
def GuessF (P D v1 v2 hd u2 : Nat) : Prop := 0 < D ∧ 0 < v1 ∧ P < 4294967296 * D ∧ ∃ W Pr Dr, P = (hd * 4294967296 + u2) * W + Pr ∧ Pr < W ∧ D = (v1 * 4294967296 + v2) * W + Dr ∧ Dr < W ∧ u2 < 4294967296 ∧ v2 < 4294967296
theorem guessF_mk {l dl : List Nat} {i m D : Nat} (okl : OkL l) (okd : OkL dl) (hm : 2 ≤ m) (hil : i + (m + 1) ≤ l.length) (hdl : dl.length = m) (hD : val dl = D) (hv : 0 < dl.getD (m - 1) 0) (hD0 : 0 < D) (hP : val (partL l i m) < 4294967296 * D) :
  GuessF (val (partL l i m)) D (dl.getD (m - 1) 0) (dl.getD (m - 2) 0) (l.getD (i + m) 0 * 4294967296 + l.getD (i + (m - 1)) 0) (l.getD (i + (m - 2)) 0) := by
 obtain ⟨k, rfl⟩ : ∃ k, m = k + 2 := ⟨m - 2, by omega⟩
 obtain ⟨Pr, h1, h2⟩ := val_top3 (partL_ok okl i (k + 2)) (partL_length hil)
 obtain ⟨Dr, h3, h4⟩ := val_top2 okd hdl
 rw [partL_getD (by omega), partL_getD (by omega), partL_getD (by omega)] at h2
 rw [show k + 2 - 1 = k + 1 by omega, Nat.add_sub_cancel] at *
 exact ⟨hD0, hv, hP, _, Pr, Dr, h2, h1, by rw [← hD]; exact h4, h3, okL_get okl _, okL_get okd _⟩
theorem guessI_start {P D v1 v2 hd u2 : Nat} (h : GuessF P D v1 v2 hd u2) : GuessI P D v1 hd (hd / v1) (hd % v1) := by
 obtain ⟨h0, hv, hP, W, Pr, Dr, e1, h1, e2, h2, h3, h4⟩ := h
 refine ⟨guess_start (C := 4294967296 * W) hv ?_ ?_, by rw [Nat.mul_comm]; exact Nat.div_add_mod _ _⟩
 ·rw [e1]
  have := Nat.mul_le_mul_right W (show u2 + 1 ≤ 4294967296 from h3)
  grind
 ·rw [e2]
  grind
theorem guessI_small {P D v1 v2 hd u2 : Nat} (h : GuessF P D v1 v2 hd u2) : hd < (v1 + 1) * 4294967296 := by
 obtain ⟨h0, hv, hP, W, Pr, Dr, e1, h1, e2, h2, h3, h4⟩ := h
 have hD : D < (v1 * 4294967296 + 4294967296) * W := by
  have := Nat.mul_le_mul_right W (show v2 + 1 ≤ 4294967296 from h4)
  grind
 have h5 : hd * 4294967296 * W < 4294967296 * ((v1 * 4294967296 + 4294967296) * W) := by
  have := Nat.mul_lt_mul_of_pos_left hD (show 0 < 4294967296 by omega)
  grind
 have h6 : (hd * 4294967296) * W < (4294967296 * (v1 * 4294967296 + 4294967296)) * W := by rw [Nat.mul_assoc 4294967296]; exact h5
 have := Nat.lt_of_mul_lt_mul_right h6
 omega
theorem guessI_dec {P D v1 v2 hd u2 g r : Nat} (h : GuessF P D v1 v2 hd u2) (hi : GuessI P D v1 hd g r) (hc : 4294967296 ≤ g ∨ r * 4294967296 + u2 < g * v2) : 1 ≤ g ∧ GuessI P D v1 hd (g - 1) (r + v1) := by
 obtain ⟨h0, hv, hP, W, Pr, Dr, e1, h1, e2, h2, h3, h4⟩ := h
 have := guess_dec (P := P) (D := D) (v1 := v1) (v2 := v2) (hd := hd) (u2 := u2) (W := W) (B := 4294967296) (g := g) (r := r) (by rw [Nat.div_lt_iff_lt_mul h0]; exact hP) (by omega)
  (by rw [e1, Nat.add_mul _ 1, Nat.one_mul]; omega) (by omega) hi.1 hi.2 hc
 exact ⟨this.1, this.2.1, this.2.2⟩
theorem guessI_end {P D v1 v2 hd u2 g r : Nat} (h : GuessF P D v1 v2 hd u2) (hi : GuessI P D v1 hd g r) (hg : g < 4294967296) (hc : g * v2 ≤ r * 4294967296 + u2) : GuessR P D g := by
 obtain ⟨h0, hv, hP, W, Pr, Dr, e1, h1, e2, h2, h3, h4⟩ := h
 exact ⟨hi.1, guess_end h0 (by omega) e2 h2 hv hi.2 hg hc, hg⟩
theorem guessI_break {P D v1 v2 hd u2 g r : Nat} (h : GuessF P D v1 v2 hd u2) (hi : GuessI P D v1 hd g r) (hr : 4294967296 ≤ r) : GuessR P D g := by
 have hs := guessI_small h
 have hg : g < 4294967296 := by
  have h1 := hi.2
  have hv := h.2.1
  have : g * v1 < 4294967296 * v1 := by rw [Nat.add_mul, Nat.mul_comm v1] at hs; omega
  exact Nat.lt_of_mul_lt_mul_right this
 refine guessI_end h hi hg ?_
 obtain ⟨h0, hv, hP, W, Pr, Dr, e1, h1, e2, h2, h3, h4⟩ := h
 have := Nat.mul_le_mul (Nat.le_of_lt hg) (Nat.le_of_lt h4)
 have := Nat.mul_le_mul_right 4294967296 hr
 omega
theorem norm_facts {d rd : List Nat} {m n : Nat} (hd : OkL d) (hdl : d.length = m) (hm : 2 ≤ m) (hn : n < 32) (htop : 0 < d.getD (m - 1) 0) (hb : d.getD (m - 1) 0 * 2 ^ n < 4294967296) (hr : OkL rd) (hrl : rd.length = m + 1) (hv : val rd = val d * 2 ^ n) :
  val d * 2 ^ n < 4294967296 ^ m ∧ 4294967296 ^ (m - 1) * 2 ^ n ≤ val d * 2 ^ n ∧ val (rd.take m) = val d * 2 ^ n ∧ 0 < (rd.take m).getD (m - 1) 0 ∧ OkL (rd.take m) ∧ (rd.take m).length = m := by
 obtain ⟨k, rfl⟩ : ∃ k, m = k + 1 := ⟨m - 1, by omega⟩
 rw [Nat.add_sub_cancel] at *
 have e1 := val_take_succ d k (by omega)
 rw [List.take_of_length_le (by omega)] at e1
 have h1 := val_lt (okL_take hd k)
 have ht : (d.take k).length = k := by rw [List.length_take]; omega
 rw [ht] at h1
 have hp : (4294967296 : Nat) = 2 ^ n * 2 ^ (32 - n) := by rw [← Nat.pow_add, show n + (32 - n) = 32 by omega]
 have hpp : 0 < 2 ^ n := Nat.two_pow_pos n
 have h2 : (d.getD k 0 + 1) * 2 ^ n ≤ 4294967296 := by
  rw [hp, Nat.mul_comm (2 ^ n)] at hb
  have := Nat.lt_of_mul_lt_mul_right hb
  have := Nat.mul_le_mul_right (2 ^ n) this
  rw [Nat.mul_comm (2 ^ (32 - n)), ← hp] at this
  exact this
 generalize d.getD k 0 = tp at *
 have h3 : val d < 4294967296 ^ k * (tp + 1) := by rw [Nat.mul_add, Nat.mul_one]; omega
 have h4 : val d * 2 ^ n < 4294967296 ^ (k + 1) := by
  have := Nat.mul_lt_mul_of_pos_right h3 hpp
  rw [Nat.mul_assoc] at this
  have h5 := Nat.mul_le_mul_left (4294967296 ^ k) h2
  rw [Nat.pow_succ]
  omega
 have h5 : 4294967296 ^ k * 2 ^ n ≤ val d * 2 ^ n := by
  refine Nat.mul_le_mul_right _ ?_
  have := Nat.mul_le_mul_left (4294967296 ^ k) (show 1 ≤ tp from htop)
  omega
 have hl : (rd.take (k + 1)).length = k + 1 := by rw [List.length_take]; omega
 have e2 := val_drop rd (k + 1)
 rw [hl, hv] at e2
 have h6 : val (rd.take (k + 1)) = val d * 2 ^ n := by
  rcases Nat.eq_zero_or_pos (val (rd.drop (k + 1))) with h0 | h0
  ·rw [h0] at e2; omega
  ·have := Nat.mul_le_mul_left (4294967296 ^ (k + 1)) h0
   omega
 refine ⟨h4, h5, h6, ?_, okL_take hr _, hl⟩
 have e3 := val_take_succ (rd.take (k + 1)) k (by omega)
 rw [List.take_of_length_le (by omega : (rd.take (k + 1)).length ≤ k + 1)] at e3
 have h7 := val_lt (okL_take (okL_take hr (k + 1)) k)
 have ht2 : ((rd.take (k + 1)).take k).length = k := by rw [List.length_take]; omega
 rw [ht2] at h7
 rcases Nat.eq_zero_or_pos ((rd.take (k + 1)).getD k 0) with h0 | h0
 ·rw [h0, Nat.mul_zero, Nat.add_zero, h6] at e3
  have := Nat.mul_le_mul_left (4294967296 ^ k) hpp
  omega
 ·exact h0
theorem div_fin {m L nl nq a d n : Nat} {l q : List Nat} (h : DivI m (d * 2 ^ n) L nl nq 0 l q) (hL : L = a * 2 ^ n) (hm : m ≤ nl) :
  val q = a / d ∧ val (l.take m) / 2 ^ n = a % d ∧ (l.take m).length = m ∧ OkL (l.take m) := by
 obtain ⟨h1, h2, h3, h4, h5, h6, h7, h8⟩ := h
 rw [List.drop_zero] at h6
 have hp : 0 < 2 ^ n := Nat.two_pow_pos n
 have ht : (l.take m).length = m := by rw [List.length_take]; omega
 have e := val_drop l m
 rw [ht] at e
 have e2 : val (l.take m) = val l := by
  rcases Nat.eq_zero_or_pos (val (l.drop m)) with h0 | h0
  ·rw [h0] at e; omega
  ·have := Nat.mul_le_mul_left (4294967296 ^ m) h0
   omega
 have hd0 : 0 < d * 2 ^ n := by omega
 have q1 : val q = L / (d * 2 ^ n) := by
  rw [← h5, Nat.add_mul_div_left _ _ hd0, Nat.div_eq_of_lt h6, Nat.zero_add]
 have r1 : val l = L % (d * 2 ^ n) := by
  rw [← h5, Nat.add_mul_mod_self_left, Nat.mod_eq_of_lt h6]
 refine ⟨?_, ?_, ht, okL_take h3 m⟩
 ·rw [q1, hL, Nat.mul_div_mul_right _ _ hp]
 ·rw [e2, r1, hL, Nat.mul_mod_mul_right, Nat.mul_div_cancel _ hp]
theorem divI_start {A rl : List Nat} {m n la D : Nat} (hA : OkL A) (hla : A.length = la) (hml : m ≤ la) (hm : 1 ≤ m) (hr : OkL rl) (hrl : rl.length = la + 1) (hv : val rl = val A * 2 ^ n) (hD : D < 4294967296 ^ m) (hD2 : 4294967296 ^ (m - 1) * 2 ^ n ≤ D) :
  DivI m D (val A * 2 ^ n) (la + 1) (la + 1 - m) (la + 1 - m) rl (List.replicate (la + 1 - m) 0) := by
 refine ⟨hrl, by simp, hr, fun x hx => by rw [List.eq_of_mem_replicate hx]; omega, by rw [val_replicate, hv, Nat.mul_zero, Nat.add_zero], ?_, fun j hj => by simp [List.getD_eq_getElem?_getD, hj], hD⟩
 have e := val_drop rl (la + 1 - m)
 have ht : (rl.take (la + 1 - m)).length = la + 1 - m := by rw [List.length_take]; omega
 rw [ht, hv] at e
 have h1 := val_lt hA
 rw [hla] at h1
 have h2 := Nat.mul_lt_mul_of_pos_right h1 (Nat.two_pow_pos n)
 have h3 : 4294967296 ^ la * 2 ^ n = 4294967296 ^ (la + 1 - m) * (4294967296 ^ (m - 1) * 2 ^ n) := by
  rw [← Nat.mul_assoc, ← Nat.pow_add, show la + 1 - m + (m - 1) = la by omega]
 rw [h3] at h2
 have h4 : 4294967296 ^ (la + 1 - m) * val (rl.drop (la + 1 - m)) < 4294967296 ^ (la + 1 - m) * (4294967296 ^ (m - 1) * 2 ^ n) := by omega
 have := Nat.lt_of_mul_lt_mul_left h4
 omega
end Go.Proofs.YtjelnmokcpoofaaGreatDoor
