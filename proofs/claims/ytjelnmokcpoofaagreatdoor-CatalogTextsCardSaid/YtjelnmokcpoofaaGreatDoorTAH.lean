/-
  polestarref01: Double. polestarref01: Common. polestarref01: Common, of two numbers that are not nought. polestarref02: common, turned. polestarref02: turned, Lowest. polestarref02: Plus, Turned, Minus, Times, Cmp, Same: printed by tools/gen_ref.py. polestarref02: Check, Checks.
-/
import Derived.Test.YtjelnmokcpoofaaGreatDoorTAG
import Derived.Deep.LoopGhost
import Derived.Test.YtjelnmokcpoofaaGreatDoorTAF
import Derived.Test.YtjelnmokcpoofaaGreatDoorTAE
namespace Go.Proofs.YtjelnmokcpoofaaGreatDoor
set_option maxRecDepth 100000
open Go Go.RowKit Go.Proofs
theorem sg_scale (X : Int) (k : Nat) : sg (decide (X < 0)) (X.natAbs * k) = X * k := by
 unfold sg
 by_cases h : X < 0
 ·have e : (X.natAbs : Int) = -X := by omega
  simp only [decide_eq_true h, if_true, Int.natCast_mul, e, Int.neg_mul, Int.neg_neg]
 ·have e : (X.natAbs : Int) = X := by omega
  simp only [decide_eq_false h, Int.natCast_mul, e]
  rfl
theorem val_shift (n : Nat) (l : List Nat) : val (List.replicate n 0 ++ l) = 4294967296 ^ n * val l := by
 rw [val_append, val_replicate, List.length_replicate, Nat.zero_add]
theorem okL_rep (n : Nat) : OkL (List.replicate n 0) := fun x hx => by rw [List.eq_of_mem_replicate hx]; omega
theorem two_split (n : Nat) : 4294967296 ^ (n / 32) * 2 ^ (n % 32) = 2 ^ n := by
 rw [show (4294967296 : Nat) = 2 ^ 32 by decide, ← Nat.pow_mul, ← Nat.pow_add, Nat.div_add_mod]
theorem pow31 {i : Nat} (h : i ≤ 31) : 2 ^ i ≤ 2147483648 := by
 have := Nat.pow_le_pow_right (show 0 < 2 by omega) h
 simpa using this
set_option maxHeartbeats 3200000 in
theorem rdouble_c (v1 : Value) (X : Int) (n : Nat) (w : World) (hX : nl X ≤ 268435456) (hn : n ≤ 8589934592) (h1 : IntR w v1 X) :
  Calls Tryz.prog 237 #[v1, .int .i64 n] w fun e w' => ∃ v, e = .returned v ∧ IntR w' v (X * (2 ^ n : Nat)) ∧ Ext w w' := by
 by_cases h0 : X = 0
 ·subst h0
  obtain ⟨s1, rfl, a1, c1, rfl, _, r1⟩ := h1
  have hl : (lim (Int.natAbs 0)).length = 0 := by simp [lim_zero]
  have hz : IntR w (.agg #[.bool false, .slice none 0 0]) (0 * (2 ^ n : Nat)) := by
   rw [Int.zero_mul]
   exact ⟨_, rfl, by simp only [Int.natAbs_zero, lim_zero]; exact magR_nil w⟩
  rw [hl]
  clear r1
  replace hz := mK hz
  go_enter Tryz.func237, Tryz.ntmps237
  go_wp2_with fail
  exact bodyPost_ret (v := .agg #[.bool false, .slice none 0 0]) (by simp [results, Tryz.results237, go_sem]) rfl ⟨_, rfl, hz.out.ext (((xR _).al _).al _), ((xR _).al _).al _⟩
 ·obtain ⟨s1, rfl, a1, c1, rfl, hc1, r1⟩ := h1
  have hn0 : X.natAbs ≠ 0 := by omega
  have hpos : 0 < (lim X.natAbs).length := by rw [lim_pos hn0]; simp
  have hl : (((lim X.natAbs).length : Int) == 0) = false := by rw [beq_eq_false_iff_ne]; omega
  have hXl : (lim X.natAbs).length ≤ 268435456 := hX
  have hsc := sg_scale X (2 ^ n)
  obtain ⟨bx, hbx⟩ : ∃ b, b = decide (X < 0) := ⟨_, rfl⟩
  rw [← hbx] at hsc ⊢
  have SG := mK (fun s W h => rsigned_raw bx s (X.natAbs * 2 ^ n) W h)
  rw [hsc] at SG
  have happ : AppX w (.slice a1 (lim X.natAbs).length c1) (limV (lim X.natAbs)) := by
   obtain ⟨b, off, g1, g2⟩ := r1
   have := g1 (limV_ne hpos)
   subst this
   exact .inr ⟨_, c1, by rw [limV_length], row_cells g2⟩
  have hq : val (List.replicate (n / 32) 0 ++ lim X.natAbs) * 2 ^ (n % 32) = X.natAbs * 2 ^ n := by
   rw [val_shift, val_lim, Nat.mul_assoc, Nat.mul_comm X.natAbs, ← Nat.mul_assoc, two_split, Nat.mul_comm]
  have hlq : (List.replicate (n / 32) 0 ++ lim X.natAbs).length = n / 32 + (limV (lim X.natAbs)).length := by simp [limV_length]
  have okq : OkL (List.replicate (n / 32) 0 ++ lim X.natAbs) := okL_append.2 ⟨okL_rep _, lim_ok _⟩
  have hll : (limV (lim X.natAbs)).length ≤ 268435456 := by rw [limV_length]; exact hXl
  have hlm : limV (List.replicate (n / 32) 0 ++ lim X.natAbs) = limV (List.replicate (n / 32) 0) ++ limV (lim X.natAbs) := by simp [limV]
  have hmk := fun w => make32 (n / 32) w (by omega)
  rw [show (((n / 32 : Nat)) : Int) = (n : Int) / 32 by omega] at hmk
  replace hsc := mK hsc
  replace hbx := mK hbx
  replace hq := mK hq
  replace hlq := mK hlq
  replace hlm := mK hlm
  replace happ := mK happ
  have hlen0 : (lim (X.natAbs * 2 ^ n)).length ≤ 4294967296 := by
   have h1 := lim_mul X.natAbs (2 ^ n)
   have h2 : (lim (2 ^ n)).length ≤ n / 32 + 1 := by
    refine lim_length_le ?_
    rw [← two_split n, Nat.pow_succ]
    have := pow31 (show n % 32 ≤ 31 by omega)
    exact Nat.mul_lt_mul_of_pos_left (by omega) (Nat.pow_pos (by omega))
   omega
  replace hlen0 := mK hlen0
  obtain ⟨i0, hi, hz0, hz1, hz2⟩ := info_parts u32_info
  generalize (lim X.natAbs).length = n1 at *
  clear r1 hn0 hpos
  go_enter Tryz.func237, Tryz.ntmps237
  go_wp2_with (at_builtin; refine wpList_append_both rfl (.tmp 16) (.tmp 18) 48 rfl w.heap.size 140 i0 (.int .u32 0) 4 u32_under hi hz0 hz1 hz2 rfl (.slice (some ⟨w.heap.size + 1 + 1, 0, none⟩) (n / 32) (n / 32)) (n / 32) (limV (List.replicate (n / 32) 0)) rfl ?d0 (limV (lim X.natAbs)) (happ.out.ext ((((xR w).al _).al _).al _)) (limV_one _) ?d3 ?d4 ?d5 ?_)
  case d0 =>
   have h := magO_block (w := (w.alloc (.cells #[.bool bx, .slice a1 n1 c1] 50)).alloc (.cells #[.bool false, .slice none 0 0] 50)) (q := List.replicate (n / 32) 0) (by simp; omega)
   have h2 := h.mono (show w.heap.size ≤ _ by simp; omega)
   unfold MagO at h2
   rw [List.length_replicate, show ((w.alloc (.cells #[.bool bx, .slice a1 n1 c1] 50)).alloc (.cells #[.bool false, .slice none 0 0] 50)).heap.size = w.heap.size + 1 + 1 by simp] at h2
   exact h2
  case d3 => unfold maxLen; omega
  case d4 => omega
  case d5 => simp; omega
  intro v2 w2 hown2 hgrow2
  obtain ⟨wb, hwb⟩ : ∃ wb, wb = (w.alloc (.cells #[.bool bx, .slice a1 n1 c1] 50)).alloc (.cells #[.bool false, .slice none 0 0] 50) := ⟨_, rfl⟩
  have hE : Ext w wb := by rw [hwb]; exact ((xR w).al _).al _
  have hE2 : Ext wb w2 := by
   rw [← hwb] at hgrow2
   refine ((xR wb).al _).gr hgrow2 (fun k hk => ?_)
   simp [Value.ownBlock] at hk
   rw [hwb]
   simp
   omega
  have k00 := hE2.cell (show wb.cell? ⟨w.heap.size, 0, none⟩ = some (.bool bx) by rw [hwb]; go_simp)
  have hB := hE2.blk (show wb.heap[w.heap.size + 1]? = some (.cells #[.bool false, .slice none 0 0] 50) by rw [hwb]; exact heap_at _ _ _ (by simp))
  have hm : MagO w2 w.heap.size v2 (List.replicate (n / 32) 0 ++ lim X.natAbs) := by
   unfold MagO
   rw [hlq.out, hlm.out]
   exact hown2
  replace hE := mK (hE.trans hE2)
  replace hB := mK hB
  clear hown2 hgrow2 hwb hE2 happ
  obtain ⟨a2, c2, hv2, hle2, hrow2⟩ := hm.r
  rw [hlq.out] at hv2 hle2
  subst hv2
  have hln : (List.replicate (n / 32) 0 ++ lim X.natAbs).length ≤ 1073741824 := by rw [hlq.out]; omega
  have TM := fun W (e : Ext w2 W) => rtimes_c a2 c2 (List.replicate (n / 32) 0 ++ lim X.natAbs) (2 ^ (n % 32)) W hln okq (by have := pow31 (show n % 32 ≤ 31 by omega); omega) (hrow2.ext e)
  rw [hq.out, hlq.out] at TM
  replace TM := mK TM
  replace hrow2 := mK hrow2
  clear hm
  generalize n / 32 + (limV (lim X.natAbs)).length = n2 at *
  go_wp2_with fail
  go_loop [6, 7] (fun f i => ∃ (k F : Nat), k ≤ n % 32 ∧ i = .int .i64 (k : Nat) ∧ f = .int .u32 (F : Nat) ∧ F = 2 ^ k) (fun _ i => n % 32 - (intOf i).toNat)
  case atStart => exact ⟨0, 1, Nat.zero_le _, rfl, rfl, rfl⟩
  case round =>
   obtain ⟨k, F, hk, rfl, rfl, hF⟩ := hrel
   by_cases hlt : k < n % 32
   ·have hb : F ≤ 1073741824 := by
     have := Nat.pow_le_pow_right (show 0 < 2 by omega) (show k ≤ 30 by omega)
     rw [hF]
     simpa using this
    have hn : 2 * F = 2 ^ (k + 1) := by rw [hF, Nat.pow_succ, Nat.mul_comm]
    replace hF := mK hF
    replace hn := mK hn
    have hlt2 : (k : Int) < (n : Int) % 32 := by omega
    go_wp2_with fail
    go_round
    case rel => exact ⟨k + 1, 2 * F, by omega, by go_num, by simp, hn.out⟩
    case measure => simp [intOf] <;> omega
   ·obtain rfl : k = n % 32 := by omega
    have hFF := hF
    have TM2 := TM.out
    rw [← hFF] at TM2
    replace TM2 := mK TM2
    replace hF := mK hF
    clear hFF TM
    go_wp2_with fail
    have h00 := fun W (e : Ext w2 W) => e.cell k00
    apply region_ext [.val _, .val _, .val _, .val _, .pred (fun W v => RawR W v (X.natAbs * 2 ^ n)), .pred (fun W v => IntR W v (X * (2 ^ n : Nat)))] (by kernel_rfl) (stable_vals _ (stable_vals _ (stable_vals _ (stable_vals _ (st_rawR _ (st_intRG _ trivial))))))
    iterate 4 (refine ⟨fun W hW _ => by go_simp; exact ⟨xR _, rfl⟩, ?_⟩)
    refine ⟨fun W hW _ => ?g6, fun v6 => ⟨fun W hW hF => ?g7, fun v7 => fun W hW hF => ?fin⟩⟩
    case g6 =>
     go_simp
     refine (TM2.out W hW).mono ?_
     rintro e w' ⟨v, rfl, h1, h2⟩
     have hlen : (lim (X.natAbs * 2 ^ n)).length ≤ 4294967296 := hlen0.out
     exact ⟨v, rfl, h2, RawR.lims h1.r hlen⟩
    case g7 =>
     have d6 : RawR W v6 (X.natAbs * 2 ^ n) := hF.1 (by kernel_rfl)
     replace d6 := mK d6
     clear hF
     go_simp
     refine (SG.out v6 W d6.out).mono ?_
     rintro e w' ⟨v, rfl, h1, h2⟩
     exact ⟨v, rfl, h2, h1⟩
    case fin =>
     have d7 : IntR W v7 (X * (2 ^ n : Nat)) := hF.1 rfl
     have hBW := hW.blk hB.out
     have hEW0 := hE.out.trans hW
     clear hF h00 k00 TM2 SG hW
     go_simp
     obtain ⟨nb, a2, n2, c2, rfl⟩ := d7.shape
     have hR := d7.flat hBW (by simp [flatV]) #[.bool nb, .slice a2 n2 c2]
     have hEW := hEW0.row (show w.heap.size ≤ w.heap.size + 1 by omega) #[.bool nb, .slice a2 n2 c2]
     replace hR := mK hR
     replace hEW := mK hEW
     clear d7 hEW0
     go_wp2_with (refine wpList_store_row rfl 50 (.tmp 4) (.tmp 33) rfl (w.heap.size + 1) #[.bool nb, .slice a2 n2 c2] rfl rfl 50 _ hBW (by kernel_rfl) rfl (by kernel_rfl) ?_)
     exact bodyPost_ret (results_cell_row rfl _ _ (w.heap.size + 1) 50 #[.bool nb, .slice a2 n2 c2] (0, 0) _ rfl (setRow_heap _ _ _ _ _ _ hBW) Tryz.underlying50 rfl (by kernel_rfl)) rfl ⟨_, rfl, hR.out, hEW.out⟩
theorem lim_ne {n : Nat} (h : 0 < n) : lim n ≠ [] := by rw [lim_pos (by omega)]; simp
theorem reven_m (v : Value) (A : Nat) (w : World) (hA : 0 < A) (hl : (lim A).length ≤ 1073741824) (h : MagR w v (lim A)) :
  Calls Tryz.prog 234 #[v] w fun e w' => e = .returned (.bool (decide (A % 2 = 0))) ∧ w = w' := by
 obtain ⟨a, c, rfl, hc, r⟩ := h
 have := reven_c a c (lim A) w (lim_ne hA) (lim_ok A) (by omega) r
 rwa [val_lim] at this
theorem rhalf_m (v : Value) (A : Nat) (w : World) (hl : (lim A).length ≤ 1073741824) (h : MagR w v (lim A)) :
  Calls Tryz.prog 235 #[v] w fun e w' => ∃ v, e = .returned v ∧ MagR w' v (lim (A / 2)) ∧ Ext w w' := by
 obtain ⟨a, c, rfl, hc, r⟩ := h
 refine (rhalf_c a c (lim A) w (by omega) (lim_ok A) r).mono ?_
 rintro e w' ⟨v, he, h1, h2⟩
 rw [val_lim] at h1
 exact ⟨v, he, h1.r, h2⟩
theorem rcmp_m (v v' : Value) (A B : Nat) (w : World) (hl : (lim A).length ≤ 1073741824) (hm : (lim B).length ≤ 1073741824) (h : MagR w v (lim A)) (h' : MagR w v' (lim B)) :
  Calls Tryz.prog 186 #[v, v'] w fun e w' => e = .returned (.int .i64 ((A : Int) - B).sign) ∧ Ext w w' := by
 obtain ⟨a, c, rfl, hc, r⟩ := h
 obtain ⟨a', c', rfl, hc', r'⟩ := h'
 exact rcmp_c a a' c c' A B w (by omega) (by omega) r r'
theorem rsub_m (v v' : Value) (A B : Nat) (w : World) (hl : (lim A).length ≤ 1073741824) (hv : B ≤ A) (h : MagR w v (lim A)) (h' : MagR w v' (lim B)) :
  Calls Tryz.prog 236 #[v, v'] w fun e w' => ∃ v, e = .returned v ∧ MagR w' v (lim (A - B)) ∧ Ext w w' := by
 obtain ⟨a, c, rfl, hc, r⟩ := h
 obtain ⟨a', c', rfl, hc', r'⟩ := h'
 refine (rsub_c a a' c c' (lim A) (lim B) w (by omega) (lim_mono hv) (lim_ok _) (lim_ok _) (by rw [val_lim, val_lim]; exact hv) r r').mono ?_
 rintro e w' ⟨v, he, h1, h2⟩
 rw [val_lim, val_lim] at h1
 exact ⟨v, he, h1.r, h2⟩
theorem rsigned_m (v : Value) (A : Nat) (w : World) (hl : (lim A).length ≤ 1073741824) (h : MagR w v (lim A)) :
  Calls Tryz.prog 132 #[.bool false, v] w fun e w' => ∃ v, e = .returned v ∧ IntR w' v (A : Int) ∧ Ext w w' := by
 have := rsigned_raw false v A w (RawR.lims h (by omega))
 unfold sg at this
 simpa using this
theorem gcd_half {A B : Nat} (hA : A % 2 = 0) (hg : Nat.gcd A B % 2 = 1) : Nat.gcd (A / 2) B = Nat.gcd A B := by
 obtain ⟨k, rfl⟩ : ∃ k, A = 2 * k := ⟨A / 2, by omega⟩
 rw [Nat.mul_div_cancel_left _ (by omega)]
 apply Nat.dvd_antisymm
 ·exact Nat.dvd_gcd (Nat.dvd_trans (Nat.gcd_dvd_left _ _) (Nat.dvd_mul_left _ _)) (Nat.gcd_dvd_right _ _)
 ·refine Nat.dvd_gcd ?_ (Nat.gcd_dvd_right _ _)
  have hc : Nat.Coprime (Nat.gcd (2 * k) B) 2 := by
   rw [Nat.coprime_comm]
   unfold Nat.Coprime
   rw [Nat.gcd_rec, hg]
   rfl
  exact hc.dvd_of_dvd_mul_left (Nat.gcd_dvd_left _ _)
theorem gcd_odd {A B : Nat} (h : ¬ (A % 2 = 0 ∧ B % 2 = 0)) : Nat.gcd A B % 2 = 1 := by
 rcases Nat.mod_two_eq_zero_or_one (Nat.gcd A B) with h0 | h0
 ·exfalso
  have hd : 2 ∣ Nat.gcd A B := Nat.dvd_of_mod_eq_zero h0
  exact h ⟨Nat.mod_eq_zero_of_dvd (Nat.dvd_trans hd (Nat.gcd_dvd_left _ _)), Nat.mod_eq_zero_of_dvd (Nat.dvd_trans hd (Nat.gcd_dvd_right _ _))⟩
 ·exact h0
set_option maxHeartbeats 3200000 in
theorem rcommon_nought (v1 v2 : Value) (X Y : Int) (w : World) (hX : nl X ≤ 268435456) (hY : nl Y ≤ 268435456) (h0 : X = 0 ∨ Y = 0) (h1 : IntR w v1 X) (h2 : IntR w v2 Y) :
  Calls Tryz.prog 216 #[v1, v2] w fun e w' => ∃ v, e = .returned v ∧ IntR w' v (Int.gcd X Y : Nat) ∧ Ext w w' := by
 obtain ⟨s1, rfl, m1⟩ := h1
 obtain ⟨s2, rfl, m2⟩ := h2
 have hXl : (lim X.natAbs).length ≤ 268435456 := hX
 have hYl : (lim Y.natAbs).length ≤ 268435456 := hY
 obtain ⟨bx, hbx⟩ : ∃ b, b = decide (X < 0) := ⟨_, rfl⟩
 obtain ⟨bY, hbY⟩ : ∃ b, b = decide (Y < 0) := ⟨_, rfl⟩
 rw [← hbx, ← hbY]
 have S1 := mK (fun W (e : Ext w W) => rsigned_m s1 X.natAbs W (by omega) (m1.ext e))
 have S2 := mK (fun W (e : Ext w W) => rsigned_m s2 Y.natAbs W (by omega) (m2.ext e))
 obtain ⟨a1, c1, rfl, hc1, r1⟩ := m1
 obtain ⟨a2, c2, rfl, hc2, r2⟩ := m2
 by_cases hX0 : X = 0
 ·have hl : (lim X.natAbs).length = 0 := by rw [hX0]; simp [lim_zero]
  have hg : ((Int.gcd X Y : Nat) : Int) = (Y.natAbs : Int) := by rw [hX0]; simp
  rw [hg]
  rw [hl] at S1 ⊢
  clear hbx hbY r1 r2 S1 hg h0 hX hY hX0
  go_enter Tryz.func216, Tryz.ntmps216
  go_wp2_with fail
  refine (S2.out _ ((((xR w).al _).al _).al _)).mono ?_
  rintro e w2 ⟨v, rfl, h7, he2⟩
  have hEW0 := ((((xR w).al _).al _).al _).trans he2
  have hBW := he2.blk (heap_at _ _ (w.heap.size + 2) (by simp))
  replace he2 := mK he2
  obtain ⟨nb, a2, n2, c2, rfl⟩ := h7.shape
  have hR := h7.flat hBW (by simp [flatV]) #[.bool nb, .slice a2 n2 c2]
  have hEW := hEW0.row (show w.heap.size ≤ w.heap.size + 2 by omega) #[.bool nb, .slice a2 n2 c2]
  replace hR := mK hR
  replace hEW := mK hEW
  clear h7 hEW0
  go_wp2_with (refine wpList_store_row rfl 50 (.tmp 4) (.tmp 17) rfl (w.heap.size + 2) #[.bool nb, .slice a2 n2 c2] rfl rfl 50 _ hBW (by kernel_rfl) rfl (by kernel_rfl) ?_)
  exact bodyPost_ret (results_cell_row rfl _ _ (w.heap.size + 2) 50 #[.bool nb, .slice a2 n2 c2] (0, 0) _ rfl (setRow_heap _ _ _ _ _ _ hBW) Tryz.underlying50 rfl (by kernel_rfl)) rfl ⟨_, rfl, hR.out, hEW.out⟩
 ·have hY0 : Y = 0 := by omega
  have hl : (lim Y.natAbs).length = 0 := by rw [hY0]; simp [lim_zero]
  have hg : ((Int.gcd X Y : Nat) : Int) = (X.natAbs : Int) := by rw [hY0]; simp
  have hp : (((lim X.natAbs).length : Int) == 0) = false := by
   have : X.natAbs ≠ 0 := by omega
   rw [lim_pos this, beq_eq_false_iff_ne]
   simp
   omega
  rw [hg]
  rw [hl] at S2 ⊢
  clear hbx hbY r1 r2 S2 hg h0 hX hY
  replace hX0 := mK hX0
  replace hY0 := mK hY0
  go_enter Tryz.func216, Tryz.ntmps216
  go_wp2_with fail
  refine (S1.out _ ((((xR w).al _).al _).al _)).mono ?_
  rintro e w2 ⟨v, rfl, h7, he2⟩
  have hEW0 := ((((xR w).al _).al _).al _).trans he2
  have hBW := he2.blk (heap_at _ _ (w.heap.size + 2) (by simp))
  replace he2 := mK he2
  obtain ⟨nb, a2, n2, c2, rfl⟩ := h7.shape
  have hR := h7.flat hBW (by simp [flatV]) #[.bool nb, .slice a2 n2 c2]
  have hEW := hEW0.row (show w.heap.size ≤ w.heap.size + 2 by omega) #[.bool nb, .slice a2 n2 c2]
  replace hR := mK hR
  replace hEW := mK hEW
  clear h7 hEW0
  go_wp2_with (refine wpList_store_row rfl 50 (.tmp 4) (.tmp 22) rfl (w.heap.size + 2) #[.bool nb, .slice a2 n2 c2] rfl rfl 50 _ hBW (by kernel_rfl) rfl (by kernel_rfl) ?_)
  exact bodyPost_ret (results_cell_row rfl _ _ (w.heap.size + 2) 50 #[.bool nb, .slice a2 n2 c2] (0, 0) _ rfl (setRow_heap _ _ _ _ _ _ hBW) Tryz.underlying50 rfl (by kernel_rfl)) rfl ⟨_, rfl, hR.out, hEW.out⟩
def Com1 (wb wr : World) (v5 v6 T : Value) (x y : Nat) : Prop :=
 ∃ A B t : Nat, T = .int .i64 (t : Nat) ∧ A * 2 ^ t = x ∧ B * 2 ^ t = y ∧ MagR wr v5 (lim A) ∧ MagR wr v6 (lim B) ∧ Ext wb wr
def Com3 (wb wr : World) (v5 v6 : Value) (N g k : Nat) : Prop :=
 ∃ A B, k = A + B ∧ 0 < B ∧ (lim A).length ≤ N ∧ (lim B).length ≤ N ∧ MagR wr v5 (lim A) ∧ MagR wr v6 (lim B) ∧ Nat.gcd A B = g ∧ Ext wb wr
def Com4 (wo wr : World) (v : Value) (N M g B k : Nat) : Prop := 0 < k ∧ k ≤ M ∧ (lim k).length ≤ N ∧ MagR wr v (lim k) ∧ Nat.gcd k B = g ∧ Ext wo wr
theorem half_pos {k : Nat} (h : 0 < k) (he : k % 2 = 0) : 0 < k / 2 ∧ k / 2 < k := by omega
theorem com1_bound {A t x : Nat} (hx : 0 < x) (h : A * 2 ^ t = x) : 0 < A ∧ A ≤ x ∧ t < x := by
 have hA : 0 < A := by
  rcases Nat.eq_zero_or_pos A with h0 | h0
  ·subst h0; simp at h; omega
  ·exact h0
 refine ⟨hA, ?_, ?_⟩
 ·rw [← h]; exact Nat.le_mul_of_pos_right _ (Nat.two_pow_pos t)
 ·have h1 : t < 2 ^ t := Nat.lt_two_pow_self
  have h2 : 2 ^ t ≤ A * 2 ^ t := Nat.le_mul_of_pos_left _ hA
  omega
theorem com1_t {A t x : Nat} (hA : 0 < A) (h : A * 2 ^ t = x) : t < 32 * (lim x).length := by
 have h1 := lt_pow_lim x
 have h3 : 2 ^ t ≤ A * 2 ^ t := Nat.le_mul_of_pos_left _ hA
 rw [show (4294967296 : Nat) = 2 ^ 32 by decide, ← Nat.pow_mul] at h1
 exact (Nat.pow_lt_pow_iff_right (show 1 < 2 by omega)).1 (Nat.lt_of_le_of_lt (by rw [h] at h3; exact h3) h1)
theorem com1_next {A t x : Nat} (hA : A % 2 = 0) (h : A * 2 ^ t = x) : A / 2 * 2 ^ (t + 1) = x := by
 obtain ⟨k, rfl⟩ : ∃ k, A = 2 * k := ⟨A / 2, by omega⟩
 rw [Nat.mul_div_cancel_left _ (by omega), Nat.pow_succ, ← h, Nat.mul_comm (2 ^ t) 2, ← Nat.mul_assoc, Nat.mul_comm k 2]
theorem com1_gcd {A B t x y : Nat} (h : A * 2 ^ t = x) (h' : B * 2 ^ t = y) : Nat.gcd A B * 2 ^ t = Nat.gcd x y := by
 rw [← h, ← h', Nat.gcd_mul_right]
theorem run_even_fact {k : Nat} (h : ¬ k % 2 = 0) : decide (k % 2 = 0) = false := by simpa using h
set_option maxHeartbeats 6400000 in
theorem rcommon_both (v1 v2 : Value) (X Y : Int) (w : World) (hX : nl X ≤ 268435456) (hY : nl Y ≤ 268435456) (hX0 : X ≠ 0) (hY0 : Y ≠ 0) (h1 : IntR w v1 X) (h2 : IntR w v2 Y) :
  Calls Tryz.prog 216 #[v1, v2] w fun e w' => ∃ v, e = .returned v ∧ IntR w' v (Int.gcd X Y : Nat) ∧ Ext w w' := by
 obtain ⟨s1, rfl, m1⟩ := h1
 obtain ⟨s2, rfl, m2⟩ := h2
 have hXl : (lim X.natAbs).length ≤ 268435456 := hX
 have hYl : (lim Y.natAbs).length ≤ 268435456 := hY
 obtain ⟨bx, hbx⟩ : ∃ b, b = decide (X < 0) := ⟨_, rfl⟩
 obtain ⟨bY, hbY⟩ : ∃ b, b = decide (Y < 0) := ⟨_, rfl⟩
 rw [← hbx, ← hbY]
 have hxp : 0 < X.natAbs := by omega
 have hyp : 0 < Y.natAbs := by omega
 have hgcd : Int.gcd X Y = Nat.gcd X.natAbs Y.natAbs := rfl
 rw [hgcd]
 have lx := lim_ne hxp
 have ly := lim_ne hyp
 generalize X.natAbs = x at *
 generalize Y.natAbs = y at *
 have px : (((lim x).length : Int) == 0) = false := by
  have : (lim x).length ≠ 0 := fun h => lx (List.eq_nil_of_length_eq_zero h)
  rw [beq_eq_false_iff_ne]
  omega
 have py : (((lim y).length : Int) == 0) = false := by
  have : (lim y).length ≠ 0 := fun h => ly (List.eq_nil_of_length_eq_zero h)
  rw [beq_eq_false_iff_ne]
  omega
 have M1 := mK m1
 have M2 := mK m2
 obtain ⟨a1, c1, rfl, hc1, r1⟩ := m1
 obtain ⟨a2, c2, rfl, hc2, r2⟩ := m2
 clear hbx hbY hX0 hY0 hX hY hgcd lx ly r1 r2 hc1 hc2
 replace hXl := mK hXl
 replace hYl := mK hYl
 go_enter Tryz.func216, Tryz.ntmps216
 go_wp2_with fail
 obtain ⟨wb, hwb⟩ : ∃ wb, wb = ((w.alloc (.cells #[.bool bx, .slice a1 (lim x).length c1] 50)).alloc (.cells #[.bool bY, .slice a2 (lim y).length c2] 50)).alloc (.cells #[.bool false, .slice none 0 0] 50) := ⟨_, rfl⟩
 have hE : Ext w wb := by rw [hwb]; exact (((xR w).al _).al _).al _
 have hB : wb.heap[w.heap.size + 2]? = some (.cells #[.bool false, .slice none 0 0] 50) := by rw [hwb]; exact heap_at _ _ _ (by simp)
 rw [← hwb]
 clear hwb
 have hst : Com1 wb wb (.slice a1 (lim x).length c1) (.slice a2 (lim y).length c2) (.int .i64 0) x y :=
  ⟨x, y, 0, rfl, by simp, by simp, M1.out.ext hE, M2.out.ext hE, xR _⟩
 replace hE := mK hE
 replace hB := mK hB
 replace hst := mK hst
 replace M1 := mK M1
 replace M2 := mK M2
 go_loopw [5, 6, 7] (fun v5 v6 t wr => Com1 wb wr v5 v6 t x y) (fun _ _ t _ => x - (intOf t).toNat)
 case atStart => exact hst.out
 case round =>
  obtain ⟨A, B, t, rfl, e1, e2, mA, mB, he⟩ := hrel
  obtain ⟨hA, hAx, htx⟩ := com1_bound hxp e1
  obtain ⟨hBp, hBy, hty⟩ := com1_bound hyp e2
  have ht : t ≤ 8589934592 := by have := com1_t hA e1; have := hXl.out; omega
  have lA : (lim A).length ≤ 268435456 := nT (lim_mono hAx) hXl.out
  have lB : (lim B).length ≤ 268435456 := nT (lim_mono hBy) hYl.out
  have EA := reven_m _ A wr hA (by omega) mA
  have EB := reven_m _ B wr hBp (by omega) mB
  obtain ⟨wo, rfl⟩ : ∃ wo : World, wo = wr := ⟨_, rfl⟩
  by_cases hev : A % 2 = 0 ∧ B % 2 = 0
  ·rw [decide_eq_true hev.1] at EA
   rw [decide_eq_true hev.2] at EB
   have n1 := mK (com1_next hev.1 e1)
   have n2 := mK (com1_next hev.2 e2)
   have HA := mK (rhalf_m _ A wo (by omega) mA)
   have HB := mK (fun W (e : Ext wo W) => rhalf_m _ B W (by omega) (mB.ext e))
   replace EA := mK EA
   replace EB := mK EB
   replace e1 := mK e1
   replace e2 := mK e2
   replace hev := mK hev
   replace he := mK he
   clear mA mB
   go_wp2_with (first | (refine EA.out.mono ?_; rintro e w' ⟨rfl, rfl⟩) | (refine EB.out.mono ?_; rintro e w' ⟨rfl, rfl⟩))
   refine HA.out.mono ?_
   rintro e w1 ⟨v1, rfl, hm1, he1⟩
   have HB2 := mK (HB.out w1 he1)
   replace he := mK (he.out.trans he1)
   replace hm1 := mK hm1
   clear HA HB he1
   go_wp2_with fail
   refine HB2.out.mono ?_
   rintro e w2 ⟨v2, rfl, hm2, he2⟩
   have st2 := mK (show Com1 wb w2 v1 v2 (.int .i64 ((t + 1 : Nat) : Int)) x y from ⟨A / 2, B / 2, t + 1, rfl, n1.out, n2.out, hm1.out.ext he2, hm2, he.out.trans he2⟩)
   clear hm1 hm2 he2 HB2
   go_wp2_with fail
   go_roundw
   case rel => exact st2.out
   case measure => simp [intOf] <;> omega
  ·have hodd := mK (gcd_odd hev)
   have hres := mK (com1_gcd e1 e2)
   have st3 := mK (show Com3 wb wo _ _ 268435456 (Nat.gcd A B) (A + B) from ⟨A, B, rfl, hBp, lA, lB, mA, mB, rfl, he⟩)
   replace e1 := mK e1
   replace e2 := mK e2
   replace he := mK he
   by_cases hA2 : A % 2 = 0
   ·have hB2 : ¬ B % 2 = 0 := fun h => hev ⟨hA2, h⟩
    rw [decide_eq_true hA2] at EA
    rw [run_even_fact hB2] at EB
    replace EA := mK EA
    replace EB := mK EB
    replace hA2 := mK hA2
    replace hB2 := mK hB2
    replace hev := mK hev
    clear mA mB
    go_wp2_with (first | (refine EA.out.mono ?_; rintro e w' ⟨rfl, rfl⟩) | (refine EB.out.mono ?_; rintro e w' ⟨rfl, rfl⟩))
    go_loopg [5, 6] (A + B) (fun k v5 v6 wr => Com3 wb wr v5 v6 268435456 (Nat.gcd A B) k)
    case atStart => exact st3.out
    case round =>
     clear st3
     obtain ⟨C, D, rfl, hD, lC, lD, mC, mD, hg, heC⟩ := hrel
     obtain ⟨w2, rfl⟩ : ∃ w2 : World, w2 = wr := ⟨_, rfl⟩
     by_cases hC : C = 0
     ·subst hC
      rw [Nat.gcd_zero_left] at hg
      have hfin := hres.out
      rw [← hg] at hfin
      have SS := mK (rsigned_m _ D w2 (by omega) mD)
      have DD := mK (fun v W h => rdouble_c v (D : Int) t W lD ht h)
      rw [← Int.natCast_mul, hfin] at DD
      obtain ⟨ca, cc, rfl, hcc, rC⟩ := mC
      rw [lim_zero]
      simp only [List.length_nil]
      replace heC := mK heC
      replace hfin := mK hfin
      replace hg := mK hg
      clear rC mD lC hcc
      go_wp2_with fail
      refine SS.out.mono ?_
      rintro e w3 ⟨v3, rfl, h3, he3⟩
      replace heC := mK (heC.out.trans he3)
      replace h3 := mK h3
      clear he3 SS
      go_wp2_with fail
      refine (DD.out _ _ h3.out).mono ?_
      rintro e w4 ⟨v4, rfl, h7, he4⟩
      have hBW := (heC.out.trans he4).blk hB.out
      have hEW0 := hE.out.trans (heC.out.trans he4)
      clear heC he4 h3 DD
      obtain ⟨nb, a2, n2, c2, rfl⟩ := h7.shape
      have hR := h7.flat hBW (by simp [flatV]) #[.bool nb, .slice a2 n2 c2]
      have hEW := hEW0.row (show w.heap.size ≤ w.heap.size + 2 by omega) #[.bool nb, .slice a2 n2 c2]
      replace hR := mK hR
      replace hEW := mK hEW
      clear h7 hEW0
      go_wp2_with (refine wpList_store_row rfl 50 (.tmp 4) (.tmp 59) rfl (w.heap.size + 2) #[.bool nb, .slice a2 n2 c2] rfl rfl 50 _ hBW (by kernel_rfl) rfl (by kernel_rfl) ?_)
      exact bodyPost_ret (results_cell_row rfl _ _ (w.heap.size + 2) 50 #[.bool nb, .slice a2 n2 c2] (0, 0) _ rfl (setRow_heap _ _ _ _ _ _ hBW) Tryz.underlying50 rfl (by kernel_rfl)) rfl ⟨_, rfl, hR.out, hEW.out⟩
     ·have hCp : 0 < C := by omega
      obtain ⟨ca, cc, rfl, hcc, rC⟩ := mC
      have mC : MagR w2 (.slice ca (lim C).length cc) (lim C) := ⟨ca, cc, rfl, hcc, rC⟩
      have hlc : 0 < (lim C).length := by rw [lim_pos (by omega)]; simp
      obtain ⟨g, hgg⟩ : ∃ g, g = Nat.gcd A B := ⟨_, rfl⟩
      rw [← hgg] at hg
      have hgo : g % 2 = 1 := by rw [hgg]; exact hodd.out
      have st4 := mK (show Com4 w2 w2 (.slice ca (lim C).length cc) 268435456 C g D C from ⟨hCp, nR _, lC, mC, hg, xR _⟩)
      replace hgg := mK hgg
      replace mD := mK mD
      replace heC := mK heC
      replace hC := mK hC
      replace hgo := mK hgo
      replace hg := mK hg
      clear mC rC hcc
      go_wp2_with fail
      go_loopg [5] C (fun k v5 wr => Com4 w2 wr v5 268435456 C g D k)
      case atStart => exact st4.out
      case round =>
       clear st4
       obtain ⟨hk0, hkC, lk, mk, hgk, hek⟩ := hrel
       have EK := reven_m _ gk wr hk0 (by omega) mk
       by_cases h2 : gk % 2 = 0
       ·rw [decide_eq_true h2] at EK
        obtain ⟨q1, q2⟩ := half_pos hk0 h2
        have HK := mK (rhalf_m _ gk wr (by omega) mk)
        have hgk2 := gcd_half (B := D) h2 (by rw [hgk]; exact hgo.out)
        rw [hgk] at hgk2
        have lk2 := nT (lim_mono (Nat.le_of_lt q2)) lk
        replace EK := mK EK
        replace h2 := mK h2
        replace hgk := mK hgk
        replace hgk2 := mK hgk2
        replace hek := mK hek
        clear mk
        go_wp2_with fail
        refine EK.out.mono ?_
        rintro e w' ⟨rfl, rfl⟩
        go_wp2_with fail
        refine HK.out.mono ?_
        rintro e w' ⟨v, rfl, hm, he'⟩
        have st4 := mK (show Com4 w2 w' v 268435456 C g D (gk / 2) from ⟨q1, by omega, lk2, hm, hgk2.out, hek.out.trans he'⟩)
        clear hm he' HK EK
        go_wp2_with fail
        go_roundg (gk / 2)
        case measure => exact q2
        case rel => exact st4.out
       ·rw [run_even_fact h2] at EK
        obtain ⟨C2, rfl⟩ : ∃ C2, C2 = gk := ⟨_, rfl⟩
        obtain ⟨w3, rfl⟩ : ∃ w3 : World, w3 = wr := ⟨_, rfl⟩
        have mD2 := mD.out.ext hek
        have st5 := mK (show Com4 w3 w3 u6 268435456 D g C2 D from ⟨hD, nR _, lD, mD2, by rw [Nat.gcd_comm]; exact hgk, xR _⟩)
        have M3 := mK mk
        replace EK := mK EK
        replace h2 := mK h2
        replace hgk := mK hgk
        replace hek := mK hek
        clear mD2 mk
        go_wp2_with fail
        refine EK.out.mono ?_
        rintro e w' ⟨rfl, rfl⟩
        go_wp2_with fail
        go_loopg [6] D (fun k v6 wr => Com4 w3 wr v6 268435456 D g C2 k)
        case atStart => exact st5.out
        case round =>
         clear st5
         obtain ⟨hj0, hjD, lj, mj, hgj, hej⟩ := hrel
         have EJ := reven_m _ gk wr hj0 (by omega) mj
         by_cases h3 : gk % 2 = 0
         ·rw [decide_eq_true h3] at EJ
          obtain ⟨q1, q2⟩ := half_pos hj0 h3
          have HK := mK (rhalf_m _ gk wr (by omega) mj)
          have hgk2 := gcd_half (B := C2) h3 (by rw [hgj]; exact hgo.out)
          rw [hgj] at hgk2
          have lk2 := nT (lim_mono (Nat.le_of_lt q2)) lj
          replace EJ := mK EJ
          replace h3 := mK h3
          replace hgj := mK hgj
          replace hgk2 := mK hgk2
          replace hej := mK hej
          clear mj
          go_wp2_with fail
          refine EJ.out.mono ?_
          rintro e w' ⟨rfl, rfl⟩
          go_wp2_with fail
          refine HK.out.mono ?_
          rintro e w' ⟨v, rfl, hm, he'⟩
          have st5 := mK (show Com4 w3 w' v 268435456 D g C2 (gk / 2) from ⟨q1, by omega, lk2, hm, hgk2.out, hej.out.trans he'⟩)
          clear hm he' HK EJ
          go_wp2_with fail
          go_roundg (gk / 2)
          case measure => exact q2
          case rel => exact st5.out
         ·rw [run_even_fact h3] at EJ
          obtain ⟨D2, rfl⟩ : ∃ D2, D2 = gk := ⟨_, rfl⟩
          have mC3 := M3.out.ext hej
          have CP := mK (rcmp_m _ _ C2 D2 wr (by omega) (by omega) mC3 mj)
          have hlt := cmp_lt (X := C2) (R := D2)
          have hcb := cmp_bounds (X := C2) (R := D2)
          generalize ((C2 : Int) - (D2 : Int)).sign = S at *
          have heW := (heC.out.trans hek.out).trans hej
          replace EJ := mK EJ
          replace h3 := mK h3
          replace hlt := mK hlt
          replace hgj := mK hgj
          replace hej := mK hej
          replace mC3 := mK mC3
          replace mj := mK mj
          replace heW := mK heW
          go_wp2_with fail
          refine EJ.out.mono ?_
          rintro e w' ⟨rfl, rfl⟩
          go_wp2_with fail
          refine CP.out.mono ?_
          rintro e w4 ⟨rfl, he4⟩
          clear EJ CP
          by_cases hS : S < 0
          ·have hlt2 := hlt.out.1 hS
           have SB := mK (rsub_m _ _ D2 C2 w4 (by omega) (by omega) (mj.out.ext he4) (mC3.out.ext he4))
           have mC4 := mK (mC3.out.ext he4)
           replace heW := mK (heW.out.trans he4)
           clear he4
           replace hlt2 := mK hlt2
           go_wp2_with fail
           refine SB.out.mono ?_
           rintro e w5 ⟨v5, rfl, hm5, he5⟩
           have st6 := mK (show Com3 wb w5 v5 _ 268435456 (Nat.gcd A B) (D2 - C2 + C2) from ⟨D2 - C2, C2, rfl, hk0, nT (lim_mono (Nat.sub_le _ _)) lj, lk, hm5, mC4.out.ext he5, by rw [Nat.gcd_sub_self_left (Nat.le_of_lt hlt2.out), hgj.out, hgg.out], heW.out.trans he5⟩)
           clear hm5 he5 SB mC4
           go_wp2_with fail
           go_roundg (D2 - C2 + C2)
           case measure => have := hlt2.out; omega
           case rel => exact st6.out
          ·have hge2 : D2 ≤ C2 := by
            have := hlt.out
            omega
           have SB := mK (rsub_m _ _ C2 D2 w4 (by omega) hge2 (mC3.out.ext he4) (mj.out.ext he4))
           have mC4 := mK (mj.out.ext he4)
           replace heW := mK (heW.out.trans he4)
           clear he4
           replace hge2 := mK hge2
           go_wp2_with fail
           refine SB.out.mono ?_
           rintro e w5 ⟨v5, rfl, hm5, he5⟩
           have st6 := mK (show Com3 wb w5 v5 _ 268435456 (Nat.gcd A B) (C2 - D2 + D2) from ⟨C2 - D2, D2, rfl, hj0, nT (lim_mono (Nat.sub_le _ _)) lk, lj, hm5, mC4.out.ext he5, by rw [Nat.gcd_sub_self_left hge2.out, Nat.gcd_comm, hgj.out, hgg.out], heW.out.trans he5⟩)
           clear hm5 he5 SB mC4
           go_wp2_with fail
           go_roundg (C2 - D2 + D2)
           case measure => have := hge2.out; omega
           case rel => exact st6.out
   ·rw [run_even_fact hA2] at EA
    replace EA := mK EA
    replace EB := mK EB
    replace hA2 := mK hA2
    replace hev := mK hev
    clear mA mB
    go_wp2_with (first | (refine EA.out.mono ?_; rintro e w' ⟨rfl, rfl⟩))
    go_loopg [5, 6] (A + B) (fun k v5 v6 wr => Com3 wb wr v5 v6 268435456 (Nat.gcd A B) k)
    case atStart => exact st3.out
    case round =>
     clear st3
     obtain ⟨C, D, rfl, hD, lC, lD, mC, mD, hg, heC⟩ := hrel
     obtain ⟨w2, rfl⟩ : ∃ w2 : World, w2 = wr := ⟨_, rfl⟩
     by_cases hC : C = 0
     ·subst hC
      rw [Nat.gcd_zero_left] at hg
      have hfin := hres.out
      rw [← hg] at hfin
      have SS := mK (rsigned_m _ D w2 (by omega) mD)
      have DD := mK (fun v W h => rdouble_c v (D : Int) t W lD ht h)
      rw [← Int.natCast_mul, hfin] at DD
      obtain ⟨ca, cc, rfl, hcc, rC⟩ := mC
      rw [lim_zero]
      simp only [List.length_nil]
      replace heC := mK heC
      replace hfin := mK hfin
      replace hg := mK hg
      clear rC mD lC hcc
      go_wp2_with fail
      refine SS.out.mono ?_
      rintro e w3 ⟨v3, rfl, h3, he3⟩
      replace heC := mK (heC.out.trans he3)
      replace h3 := mK h3
      clear he3 SS
      go_wp2_with fail
      refine (DD.out _ _ h3.out).mono ?_
      rintro e w4 ⟨v4, rfl, h7, he4⟩
      have hBW := (heC.out.trans he4).blk hB.out
      have hEW0 := hE.out.trans (heC.out.trans he4)
      clear heC he4 h3 DD
      obtain ⟨nb, a2, n2, c2, rfl⟩ := h7.shape
      have hR := h7.flat hBW (by simp [flatV]) #[.bool nb, .slice a2 n2 c2]
      have hEW := hEW0.row (show w.heap.size ≤ w.heap.size + 2 by omega) #[.bool nb, .slice a2 n2 c2]
      replace hR := mK hR
      replace hEW := mK hEW
      clear h7 hEW0
      go_wp2_with (refine wpList_store_row rfl 50 (.tmp 4) (.tmp 59) rfl (w.heap.size + 2) #[.bool nb, .slice a2 n2 c2] rfl rfl 50 _ hBW (by kernel_rfl) rfl (by kernel_rfl) ?_)
      exact bodyPost_ret (results_cell_row rfl _ _ (w.heap.size + 2) 50 #[.bool nb, .slice a2 n2 c2] (0, 0) _ rfl (setRow_heap _ _ _ _ _ _ hBW) Tryz.underlying50 rfl (by kernel_rfl)) rfl ⟨_, rfl, hR.out, hEW.out⟩
     ·have hCp : 0 < C := by omega
      obtain ⟨ca, cc, rfl, hcc, rC⟩ := mC
      have mC : MagR w2 (.slice ca (lim C).length cc) (lim C) := ⟨ca, cc, rfl, hcc, rC⟩
      have hlc : 0 < (lim C).length := by rw [lim_pos (by omega)]; simp
      obtain ⟨g, hgg⟩ : ∃ g, g = Nat.gcd A B := ⟨_, rfl⟩
      rw [← hgg] at hg
      have hgo : g % 2 = 1 := by rw [hgg]; exact hodd.out
      have st4 := mK (show Com4 w2 w2 (.slice ca (lim C).length cc) 268435456 C g D C from ⟨hCp, nR _, lC, mC, hg, xR _⟩)
      replace hgg := mK hgg
      replace mD := mK mD
      replace heC := mK heC
      replace hC := mK hC
      replace hgo := mK hgo
      replace hg := mK hg
      clear mC rC hcc
      go_wp2_with fail
      go_loopg [5] C (fun k v5 wr => Com4 w2 wr v5 268435456 C g D k)
      case atStart => exact st4.out
      case round =>
       clear st4
       obtain ⟨hk0, hkC, lk, mk, hgk, hek⟩ := hrel
       have EK := reven_m _ gk wr hk0 (by omega) mk
       by_cases h2 : gk % 2 = 0
       ·rw [decide_eq_true h2] at EK
        obtain ⟨q1, q2⟩ := half_pos hk0 h2
        have HK := mK (rhalf_m _ gk wr (by omega) mk)
        have hgk2 := gcd_half (B := D) h2 (by rw [hgk]; exact hgo.out)
        rw [hgk] at hgk2
        have lk2 := nT (lim_mono (Nat.le_of_lt q2)) lk
        replace EK := mK EK
        replace h2 := mK h2
        replace hgk := mK hgk
        replace hgk2 := mK hgk2
        replace hek := mK hek
        clear mk
        go_wp2_with fail
        refine EK.out.mono ?_
        rintro e w' ⟨rfl, rfl⟩
        go_wp2_with fail
        refine HK.out.mono ?_
        rintro e w' ⟨v, rfl, hm, he'⟩
        have st4 := mK (show Com4 w2 w' v 268435456 C g D (gk / 2) from ⟨q1, by omega, lk2, hm, hgk2.out, hek.out.trans he'⟩)
        clear hm he' HK EK
        go_wp2_with fail
        go_roundg (gk / 2)
        case measure => exact q2
        case rel => exact st4.out
       ·rw [run_even_fact h2] at EK
        obtain ⟨C2, rfl⟩ : ∃ C2, C2 = gk := ⟨_, rfl⟩
        obtain ⟨w3, rfl⟩ : ∃ w3 : World, w3 = wr := ⟨_, rfl⟩
        have mD2 := mD.out.ext hek
        have st5 := mK (show Com4 w3 w3 u6 268435456 D g C2 D from ⟨hD, nR _, lD, mD2, by rw [Nat.gcd_comm]; exact hgk, xR _⟩)
        have M3 := mK mk
        replace EK := mK EK
        replace h2 := mK h2
        replace hgk := mK hgk
        replace hek := mK hek
        clear mD2 mk
        go_wp2_with fail
        refine EK.out.mono ?_
        rintro e w' ⟨rfl, rfl⟩
        go_wp2_with fail
        go_loopg [6] D (fun k v6 wr => Com4 w3 wr v6 268435456 D g C2 k)
        case atStart => exact st5.out
        case round =>
         clear st5
         obtain ⟨hj0, hjD, lj, mj, hgj, hej⟩ := hrel
         have EJ := reven_m _ gk wr hj0 (by omega) mj
         by_cases h3 : gk % 2 = 0
         ·rw [decide_eq_true h3] at EJ
          obtain ⟨q1, q2⟩ := half_pos hj0 h3
          have HK := mK (rhalf_m _ gk wr (by omega) mj)
          have hgk2 := gcd_half (B := C2) h3 (by rw [hgj]; exact hgo.out)
          rw [hgj] at hgk2
          have lk2 := nT (lim_mono (Nat.le_of_lt q2)) lj
          replace EJ := mK EJ
          replace h3 := mK h3
          replace hgj := mK hgj
          replace hgk2 := mK hgk2
          replace hej := mK hej
          clear mj
          go_wp2_with fail
          refine EJ.out.mono ?_
          rintro e w' ⟨rfl, rfl⟩
          go_wp2_with fail
          refine HK.out.mono ?_
          rintro e w' ⟨v, rfl, hm, he'⟩
          have st5 := mK (show Com4 w3 w' v 268435456 D g C2 (gk / 2) from ⟨q1, by omega, lk2, hm, hgk2.out, hej.out.trans he'⟩)
          clear hm he' HK EJ
          go_wp2_with fail
          go_roundg (gk / 2)
          case measure => exact q2
          case rel => exact st5.out
         ·rw [run_even_fact h3] at EJ
          obtain ⟨D2, rfl⟩ : ∃ D2, D2 = gk := ⟨_, rfl⟩
          have mC3 := M3.out.ext hej
          have CP := mK (rcmp_m _ _ C2 D2 wr (by omega) (by omega) mC3 mj)
          have hlt := cmp_lt (X := C2) (R := D2)
          have hcb := cmp_bounds (X := C2) (R := D2)
          generalize ((C2 : Int) - (D2 : Int)).sign = S at *
          have heW := (heC.out.trans hek.out).trans hej
          replace EJ := mK EJ
          replace h3 := mK h3
          replace hlt := mK hlt
          replace hgj := mK hgj
          replace hej := mK hej
          replace mC3 := mK mC3
          replace mj := mK mj
          replace heW := mK heW
          go_wp2_with fail
          refine EJ.out.mono ?_
          rintro e w' ⟨rfl, rfl⟩
          go_wp2_with fail
          refine CP.out.mono ?_
          rintro e w4 ⟨rfl, he4⟩
          clear EJ CP
          by_cases hS : S < 0
          ·have hlt2 := hlt.out.1 hS
           have SB := mK (rsub_m _ _ D2 C2 w4 (by omega) (by omega) (mj.out.ext he4) (mC3.out.ext he4))
           have mC4 := mK (mC3.out.ext he4)
           replace heW := mK (heW.out.trans he4)
           clear he4
           replace hlt2 := mK hlt2
           go_wp2_with fail
           refine SB.out.mono ?_
           rintro e w5 ⟨v5, rfl, hm5, he5⟩
           have st6 := mK (show Com3 wb w5 v5 _ 268435456 (Nat.gcd A B) (D2 - C2 + C2) from ⟨D2 - C2, C2, rfl, hk0, nT (lim_mono (Nat.sub_le _ _)) lj, lk, hm5, mC4.out.ext he5, by rw [Nat.gcd_sub_self_left (Nat.le_of_lt hlt2.out), hgj.out, hgg.out], heW.out.trans he5⟩)
           clear hm5 he5 SB mC4
           go_wp2_with fail
           go_roundg (D2 - C2 + C2)
           case measure => have := hlt2.out; omega
           case rel => exact st6.out
          ·have hge2 : D2 ≤ C2 := by
            have := hlt.out
            omega
           have SB := mK (rsub_m _ _ C2 D2 w4 (by omega) hge2 (mC3.out.ext he4) (mj.out.ext he4))
           have mC4 := mK (mj.out.ext he4)
           replace heW := mK (heW.out.trans he4)
           clear he4
           replace hge2 := mK hge2
           go_wp2_with fail
           refine SB.out.mono ?_
           rintro e w5 ⟨v5, rfl, hm5, he5⟩
           have st6 := mK (show Com3 wb w5 v5 _ 268435456 (Nat.gcd A B) (C2 - D2 + D2) from ⟨C2 - D2, D2, rfl, hj0, nT (lim_mono (Nat.sub_le _ _)) lk, lj, hm5, mC4.out.ext he5, by rw [Nat.gcd_sub_self_left hge2.out, Nat.gcd_comm, hgj.out, hgg.out], heW.out.trans he5⟩)
           clear hm5 he5 SB mC4
           go_wp2_with fail
           go_roundg (C2 - D2 + D2)
           case measure => have := hge2.out; omega
           case rel => exact st6.out
theorem rcommonI_c (v1 v2 : Value) (X Y : Int) (w : World) (hX : nl X ≤ 268435456) (hY : nl Y ≤ 268435456) (h1 : IntR w v1 X) (h2 : IntR w v2 Y) :
  Calls Tryz.prog 216 #[v1, v2] w fun e w' => ∃ v, e = .returned v ∧ IntR w' v (Int.gcd X Y : Nat) ∧ Ext w w' := by
 by_cases h : X = 0 ∨ Y = 0
 ·exact rcommon_nought v1 v2 X Y w hX hY h h1 h2
 ·exact rcommon_both v1 v2 X Y w hX hY (fun e => h (.inl e)) (fun e => h (.inr e)) h1 h2
theorem gcd_tmod (X Y : Int) : Int.gcd Y (X.tmod Y) = Int.gcd X Y := by
 unfold Int.gcd
 rw [Int.natAbs_tmod, Nat.gcd_comm Y.natAbs, ← Nat.gcd_rec, Nat.gcd_comm]
def AnyB (_ : World) (v : Value) : Prop := ∃ b, v = .bool b
def BitsV (X : Int) (_ : World) (v : Value) : Prop := ∃ k, v = .int .i64 k ∧ BitsRes k X
theorem st_anyB {ss : List FSpec} (h : StableAll Ext ss) : StableAll Ext (.pred AnyB :: ss) := ⟨fun _ _ _ _ h => h, h⟩
theorem st_bitsV {ss : List FSpec} (X : Int) (h : StableAll Ext ss) : StableAll Ext (.pred (BitsV X) :: ss) := ⟨fun _ _ _ _ h => h, h⟩
set_option maxHeartbeats 3200000 in
theorem rcomm_c (v1 v2 : Value) (X Y : Int) (w : World) (hX : nl X ≤ 268435456) (hY : nl Y ≤ 268435456) (h1 : IntR w v1 X) (h2 : IntR w v2 Y) :
  Calls Tryz.prog 187 #[v1, v2] w fun e w' => ∃ v, e = .returned v ∧ IntR w' v (Int.gcd X Y : Nat) ∧ Ext w w' := by
 have H1 := mK h1
 have H2 := mK h2
 obtain ⟨bx, a1, n1, c1, rfl⟩ := h1.shape
 obtain ⟨bY, a2, n2, c2, rfl⟩ := h2.shape
 have B1 := mK (fun W (e : Ext w W) => rbits_c _ X W (H1.out.ext e) (by omega))
 have B2 := mK (fun W (e : Ext w W) => rbits_c _ Y W (H2.out.ext e) (by omega))
 clear h1 h2
 obtain ⟨G, hG⟩ : ∃ G, G = Int.gcd X Y := ⟨_, rfl⟩
 rw [← hG]
 replace hG := mK hG
 go_enter Tryz.func187, Tryz.ntmps187
 go_wp2_with fail
 obtain ⟨wb, hwb⟩ : ∃ wb, wb = ((w.alloc (.cells #[.bool bx, .slice a1 n1 c1] 50)).alloc (.cells #[.bool bY, .slice a2 n2 c2] 50)).alloc (.cells #[.bool false, .slice none 0 0] 50) := ⟨_, rfl⟩
 have hE : Ext w wb := by rw [hwb]; exact (((xR w).al _).al _).al _
 have hB0 : wb.heap[w.heap.size]? = some (.cells #[.bool bx, .slice a1 n1 c1] 50) := by rw [hwb]; exact (heap_alloc_old _ _ (by simp; omega)).trans ((heap_alloc_old _ _ (by simp)).trans (heap_alloc_new _ _))
 have hB1 : wb.heap[w.heap.size + 1]? = some (.cells #[.bool bY, .slice a2 n2 c2] 50) := by rw [hwb]; exact (heap_alloc_old _ _ (by simp)).trans (heap_at _ _ _ (by simp))
 have hB2 : wb.heap[w.heap.size + 2]? = some (.cells #[.bool false, .slice none 0 0] 50) := by rw [hwb]; exact heap_at _ _ _ (by simp)
 have h00 : ∀ W, Ext wb W → W.cell? ⟨w.heap.size, 0, none⟩ = some (.bool bx) := fun W e => e.cell (row2_cells hB0).1
 have h01 : ∀ W, Ext wb W → W.cell? ⟨w.heap.size, 1, none⟩ = some (.slice a1 n1 c1) := fun W e => e.cell (row2_cells hB0).2
 have h10 : ∀ W, Ext wb W → W.cell? ⟨w.heap.size + 1, 0, none⟩ = some (.bool bY) := fun W e => e.cell (row2_cells hB1).1
 have h11 : ∀ W, Ext wb W → W.cell? ⟨w.heap.size + 1, 1, none⟩ = some (.slice a2 n2 c2) := fun W e => e.cell (row2_cells hB1).2
 rw [← hwb]
 clear hwb
 replace hB0 := mK hB0
 replace hB1 := mK hB1
 replace hB2 := mK hB2
 replace hE := mK hE
 apply region_ext [.val _, .pred (BitsV X), .val _, .pred (BitsV Y), .pred AnyB] (by kernel_rfl) (stable_vals _ (st_bitsV _ (stable_vals _ (st_bitsV _ (st_anyB trivial)))))
 refine ⟨fun W hW _ => by go_simp; exact ⟨xR _, rfl⟩, ?_⟩
 refine ⟨fun W hW _ => ?g1, fun v101 => ?_⟩
 case g1 =>
  go_simp
  refine (B1.out W (hE.out.trans hW)).mono ?_
  rintro e w' ⟨k, rfl, h1, h2⟩
  exact ⟨_, rfl, h2, ⟨k, rfl, h1⟩⟩
 refine ⟨fun W hW _ => by go_simp; exact ⟨xR _, rfl⟩, ?_⟩
 refine ⟨fun W hW _ => ?g3, fun v103 => ?_⟩
 case g3 =>
  go_simp
  refine (B2.out W (hE.out.trans hW)).mono ?_
  rintro e w' ⟨k, rfl, h1, h2⟩
  exact ⟨_, rfl, h2, ⟨k, rfl, h1⟩⟩
 refine ⟨fun W hW hF => ?g4, fun v104 => fun W hW hF => ?fin⟩
 case g4 =>
  have d1 : BitsV X W v101 := hF.2.1 (by kernel_rfl)
  have d2 : BitsV Y W v103 := hF.1 (by kernel_rfl)
  obtain ⟨k1, rfl, -⟩ := d1
  obtain ⟨k2, rfl, -⟩ := d2
  clear hF
  go_simp
  exact ⟨xR _, _, rfl⟩
 case fin =>
  have d4 : AnyB W v104 := hF.1 rfl
  obtain ⟨b, rfl⟩ := d4
  clear hF h00 h01 h10 h11 B1 B2
  have b0 := hW.blk hB0.out
  have b1 := hW.blk hB1.out
  have b2 := hW.blk hB2.out
  have iX := H1.out.ext (hE.out.trans hW)
  have iY := H2.out.ext (hE.out.trans hW)
  have hEW := hE.out.trans hW
  clear hB0 hB1 hB2 H1 H2 hW hE
  cases b with
  | false =>
   have hgc := mK (show Int.gcd X Y = G from hG.out.symm)
   go_simp
   have sY := mK (rsign_c _ (Y) W iY (by omega))
   have kc0 := row2_cells b0
   have kc1 := row2_cells b1
   replace b0 := mK b0
   replace b1 := mK b1
   replace b2 := mK b2
   replace iX := mK iX
   replace iY := mK iY
   replace hEW := mK hEW
   go_wp2_with fail
   refine sY.out.mono ?_
   rintro e w3 ⟨rfl, he3⟩
   have d0 := he3.blk b0.out
   have d1 := he3.blk b1.out
   replace b2 := mK (he3.blk b2.out)
   replace iX := mK (iX.out.ext he3)
   replace iY := mK (iY.out.ext he3)
   replace hEW := mK (hEW.out.trans he3)
   clear sY kc0 kc1 b0 b1 he3
   have kc0 := row2_cells d0
   have kc1 := row2_cells d1
   replace d0 := mK d0
   replace d1 := mK d1
   by_cases hz : (Y) = 0
   ·have hs : (Y).sign = 0 := by rw [hz]; rfl
    rw [hs]
    have CM := mK (rcommonI_c _ _ (X) (Y) w3 hX hY iX.out iY.out)
    rw [hgc.out] at CM
    replace hz := mK hz
    clear hs iX iY
    go_wp2_with fail
    refine CM.out.mono ?_
    rintro e w4 ⟨v, rfl, h7, he4⟩
    have hBW := he4.blk b2.out
    have hEW0 := hEW.out.trans he4
    clear he4 CM hEW
    obtain ⟨nb, a2, n2, c2, rfl⟩ := h7.shape
    have hR := h7.flat hBW (by simp [flatV]) #[.bool nb, .slice a2 n2 c2]
    have hEW := hEW0.row (show w.heap.size ≤ w.heap.size + 2 by omega) #[.bool nb, .slice a2 n2 c2]
    replace hR := mK hR
    replace hEW := mK hEW
    clear h7 hEW0
    go_wp2_with (refine wpList_store_row rfl 50 (.tmp 4) (.tmp 19) rfl (w.heap.size + 2) #[.bool nb, .slice a2 n2 c2] rfl rfl 50 _ hBW (by kernel_rfl) rfl (by kernel_rfl) ?_)
    exact bodyPost_ret (results_cell_row rfl _ _ (w.heap.size + 2) 50 #[.bool nb, .slice a2 n2 c2] (0, 0) _ rfl (setRow_heap _ _ _ _ _ _ hBW) Tryz.underlying50 rfl (by kernel_rfl)) rfl ⟨_, rfl, hR.out, hEW.out⟩
   ·have hs : (Y).sign ≠ 0 := by
     rw [Ne, Int.sign_eq_zero_iff_zero]
     exact hz
    have hsb : (((Y).sign) == 0) = false := by rw [beq_eq_false_iff_ne]; exact hs
    have hrs := sign_rng (Y)
    have DV := mK (rdivI_c _ _ (X) (Y) w3 (nT hX (by decide)) (nT hY (by decide)) hz iX.out iY.out)
    have hnm : nl ((X).tmod (Y)) ≤ 268435456 := by
     refine nT (lim_mono ?_) hX
     rw [Int.natAbs_tmod]
     exact Nat.mod_le _ _
    have hgt := gcd_tmod (X) (Y)
    rw [hgc.out] at hgt
    generalize (Y).sign = sy at *
    replace hz := mK hz
    replace hs := mK hs
    replace hgt := mK hgt
    go_wp2_with fail
    refine DV.out.mono ?_
    rintro e w4 ⟨q, r, rfl, hq, hr, he4⟩
    obtain ⟨q1, q2, q3, q4, rfl⟩ := hq.shape
    obtain ⟨r1, r2, r3, r4, rfl⟩ := hr.shape
    have e0 := he4.blk d0.out
    have e1 := he4.blk d1.out
    replace b2 := mK (he4.blk b2.out)
    replace iY := mK (iY.out.ext he4)
    replace hEW := mK (hEW.out.trans he4)
    replace hr := mK hr
    clear hq he4 DV kc0 kc1 d0 d1 iX
    have kc0 := fun o1 o2 => (((xR w4).al o1).al o2).cell (row2_cells e1).1
    have kc1 := fun o1 o2 => (((xR w4).al o1).al o2).cell (row2_cells e1).2
    have BT := mK (fun W (e : Ext w4 W) => rbits_c _ (Y) W (iY.out.ext e) (by omega))
    replace e0 := mK e0
    replace e1 := mK e1
    go_wp2_with fail
    refine (BT.out _ (((xR w4).al _).al _)).mono ?_
    rintro e w6 ⟨k, rfl, hk, he6⟩
    have b6 := he6.blk (show ((w4.alloc (.cells #[.bool q1, .slice q2 q3 q4] 50)).alloc (.cells #[.bool r1, .slice r2 r3 r4] 50)).heap[w4.heap.size + 1]? = some (.cells #[.bool r1, .slice r2 r3 r4] 50) from heap_at _ _ _ (by simp))
    have he46 := ((((xR w4).al _).al _).trans he6)
    have e0 := he46.blk e0.out
    have e1 := he46.blk e1.out
    replace b2 := mK (he46.blk b2.out)
    replace iY := mK (iY.out.ext he46)
    replace hr := mK (hr.out.ext he46)
    replace hEW := mK (hEW.out.trans he46)
    clear BT kc0 kc1 he6 he46
    have kc1 := row2_cells e1
    have kc6 := row2_cells b6
    replace e0 := mK e0
    replace e1 := mK e1
    replace b6 := mK b6
    by_cases hk1 : k = 1
    ·have hone := hk.2.2 hk1
     have hG1 : G = 1 := by
      have h := hgc.out
      unfold Int.gcd at h
      rw [hone, Nat.gcd_one_right] at h
      exact h.symm
     subst hk1
     have OF := mK (rof_c 1 w6 (by omega) (by omega))
     replace hG1 := mK hG1
     replace hone := mK hone
     clear hr iY kc1 kc6 hk
     go_wp2_with fail
     refine OF.out.mono ?_
     rintro e w7 ⟨v, rfl, h7, he7⟩
     have hBW := he7.blk b2.out
     have hEW0 := hEW.out.trans he7
     have h7 : IntR w7 v (G : Int) := by rw [hG1.out]; exact h7
     clear he7 OF hEW
     obtain ⟨nb, a2, n2, c2, rfl⟩ := h7.shape
     have hR := h7.flat hBW (by simp [flatV]) #[.bool nb, .slice a2 n2 c2]
     have hEW := hEW0.row (show w.heap.size ≤ w.heap.size + 2 by omega) #[.bool nb, .slice a2 n2 c2]
     replace hR := mK hR
     replace hEW := mK hEW
     clear h7 hEW0
     go_wp2_with (refine wpList_store_row rfl 50 (.tmp 4) (.tmp 29) rfl (w.heap.size + 2) #[.bool nb, .slice a2 n2 c2] rfl rfl 50 _ hBW (by kernel_rfl) rfl (by kernel_rfl) ?_)
     exact bodyPost_ret (results_cell_row rfl _ _ (w.heap.size + 2) 50 #[.bool nb, .slice a2 n2 c2] (0, 0) _ rfl (setRow_heap _ _ _ _ _ _ hBW) Tryz.underlying50 rfl (by kernel_rfl)) rfl ⟨_, rfl, hR.out, hEW.out⟩
    ·have hkb : (k == 1) = false := by rw [beq_eq_false_iff_ne]; exact hk1
     have hkr := hk.1
     have hkr2 := hk.2.1
     have CM := mK (rcommonI_c _ _ (Y) ((X).tmod (Y)) w6 hY hnm iY.out hr.out)
     rw [hgt.out] at CM
     replace hk := mK hk
     replace hk1 := mK hk1
     clear hr iY
     go_wp2_with fail
     refine CM.out.mono ?_
     rintro e w7 ⟨v, rfl, h7, he7⟩
     have hBW := he7.blk b2.out
     have hEW0 := hEW.out.trans he7
     clear he7 CM hEW
     obtain ⟨nb, a2, n2, c2, rfl⟩ := h7.shape
     have hR := h7.flat hBW (by simp [flatV]) #[.bool nb, .slice a2 n2 c2]
     have hEW := hEW0.row (show w.heap.size ≤ w.heap.size + 2 by omega) #[.bool nb, .slice a2 n2 c2]
     replace hR := mK hR
     replace hEW := mK hEW
     clear h7 hEW0
     go_wp2_with (refine wpList_store_row rfl 50 (.tmp 4) (.tmp 32) rfl (w.heap.size + 2) #[.bool nb, .slice a2 n2 c2] rfl rfl 50 _ hBW (by kernel_rfl) rfl (by kernel_rfl) ?_)
     exact bodyPost_ret (results_cell_row rfl _ _ (w.heap.size + 2) 50 #[.bool nb, .slice a2 n2 c2] (0, 0) _ rfl (setRow_heap _ _ _ _ _ _ hBW) Tryz.underlying50 rfl (by kernel_rfl)) rfl ⟨_, rfl, hR.out, hEW.out⟩
  | true =>
   have hgc := mK (show Int.gcd Y X = G from (Int.gcd_comm Y X).trans hG.out.symm)
   go_simp
   obtain ⟨W2, hW2⟩ : ∃ W2, W2 = (W.setRow w.heap.size #[.bool bY, .slice a2 n2 c2]).setRow (w.heap.size + 1) #[.bool bx, .slice a1 n1 c1] := ⟨_, rfl⟩
   have hrows := two_rows W w.heap.size (w.heap.size + 1) #[.bool bY, .slice a2 n2 c2] #[.bool bx, .slice a1 n1 c1] _ _ _ (by omega) b0 b1
   have g2 : W2.heap[w.heap.size + 2]? = some (.cells #[.bool false, .slice none 0 0] 50 (0, 0)) := by
    rw [hW2, setRow_other _ _ _ _ (by omega), setRow_other _ _ _ _ (by omega)]
    exact b2
   have jX := (iX.flat b0 (by simp [flatV]) #[.bool bY, .slice a2 n2 c2]).flat hrows.2.2 (by simp [flatV]) #[.bool bx, .slice a1 n1 c1]
   have jY := (iY.flat b0 (by simp [flatV]) #[.bool bY, .slice a2 n2 c2]).flat hrows.2.2 (by simp [flatV]) #[.bool bx, .slice a1 n1 c1]
   have hEW2 := (hEW.row (show w.heap.size ≤ w.heap.size by omega) #[.bool bY, .slice a2 n2 c2]).row (show w.heap.size ≤ w.heap.size + 1 by omega) #[.bool bx, .slice a1 n1 c1]
   have k0 := mK b0
   have k2 := mK hrows.2.2
   have u0 := row2_cells b0
   have u1 := row2_cells b1
   have u3 := row2_cells hrows.2.1
   have hr1 := hrows.1
   have hr2 := hrows.2.1
   rw [← hW2] at hr1 hr2 jX jY hEW2
   clear hrows iX iY hEW b0 b1 b2
   have iX := jY
   have iY := jX
   have hEW := hEW2
   have b0 := hr1
   have b1 := hr2
   have b2 := g2
   clear jX jY hEW2 hr1 hr2 g2
   replace hW2 := mK hW2
   have sY := mK (rsign_c _ (X) W2 iY (by omega))
   have kc0 := row2_cells b0
   have kc1 := row2_cells b1
   replace b0 := mK b0
   replace b1 := mK b1
   replace b2 := mK b2
   replace iX := mK iX
   replace iY := mK iY
   replace hEW := mK hEW
   go_wp2_with (first
    | (refine wpList_store_row rfl 50 (.tmp 2) (.tmp 12) rfl w.heap.size #[.bool bY, .slice a2 n2 c2] rfl rfl 50 _ k0.out (by kernel_rfl) rfl (by kernel_rfl) ?_)
    | (refine wpList_store_row rfl 50 (.tmp 3) (.tmp 13) rfl (w.heap.size + 1) #[.bool bx, .slice a1 n1 c1] rfl rfl 50 _ k2.out (by kernel_rfl) rfl (by kernel_rfl) ?_))
   rw [← hW2.out]
   clear u0 u1 u3 k0 k2 hW2
   refine sY.out.mono ?_
   rintro e w3 ⟨rfl, he3⟩
   have d0 := he3.blk b0.out
   have d1 := he3.blk b1.out
   replace b2 := mK (he3.blk b2.out)
   replace iX := mK (iX.out.ext he3)
   replace iY := mK (iY.out.ext he3)
   replace hEW := mK (hEW.out.trans he3)
   clear sY kc0 kc1 b0 b1 he3
   have kc0 := row2_cells d0
   have kc1 := row2_cells d1
   replace d0 := mK d0
   replace d1 := mK d1
   by_cases hz : (X) = 0
   ·have hs : (X).sign = 0 := by rw [hz]; rfl
    rw [hs]
    have CM := mK (rcommonI_c _ _ (Y) (X) w3 hY hX iX.out iY.out)
    rw [hgc.out] at CM
    replace hz := mK hz
    clear hs iX iY
    go_wp2_with fail
    refine CM.out.mono ?_
    rintro e w4 ⟨v, rfl, h7, he4⟩
    have hBW := he4.blk b2.out
    have hEW0 := hEW.out.trans he4
    clear he4 CM hEW
    obtain ⟨nb, a2, n2, c2, rfl⟩ := h7.shape
    have hR := h7.flat hBW (by simp [flatV]) #[.bool nb, .slice a2 n2 c2]
    have hEW := hEW0.row (show w.heap.size ≤ w.heap.size + 2 by omega) #[.bool nb, .slice a2 n2 c2]
    replace hR := mK hR
    replace hEW := mK hEW
    clear h7 hEW0
    go_wp2_with (refine wpList_store_row rfl 50 (.tmp 4) (.tmp 19) rfl (w.heap.size + 2) #[.bool nb, .slice a2 n2 c2] rfl rfl 50 _ hBW (by kernel_rfl) rfl (by kernel_rfl) ?_)
    exact bodyPost_ret (results_cell_row rfl _ _ (w.heap.size + 2) 50 #[.bool nb, .slice a2 n2 c2] (0, 0) _ rfl (setRow_heap _ _ _ _ _ _ hBW) Tryz.underlying50 rfl (by kernel_rfl)) rfl ⟨_, rfl, hR.out, hEW.out⟩
   ·have hs : (X).sign ≠ 0 := by
     rw [Ne, Int.sign_eq_zero_iff_zero]
     exact hz
    have hsb : (((X).sign) == 0) = false := by rw [beq_eq_false_iff_ne]; exact hs
    have hrs := sign_rng (X)
    have DV := mK (rdivI_c _ _ (Y) (X) w3 (nT hY (by decide)) (nT hX (by decide)) hz iX.out iY.out)
    have hnm : nl ((Y).tmod (X)) ≤ 268435456 := by
     refine nT (lim_mono ?_) hY
     rw [Int.natAbs_tmod]
     exact Nat.mod_le _ _
    have hgt := gcd_tmod (Y) (X)
    rw [hgc.out] at hgt
    generalize (X).sign = sy at *
    replace hz := mK hz
    replace hs := mK hs
    replace hgt := mK hgt
    go_wp2_with fail
    refine DV.out.mono ?_
    rintro e w4 ⟨q, r, rfl, hq, hr, he4⟩
    obtain ⟨q1, q2, q3, q4, rfl⟩ := hq.shape
    obtain ⟨r1, r2, r3, r4, rfl⟩ := hr.shape
    have e0 := he4.blk d0.out
    have e1 := he4.blk d1.out
    replace b2 := mK (he4.blk b2.out)
    replace iY := mK (iY.out.ext he4)
    replace hEW := mK (hEW.out.trans he4)
    replace hr := mK hr
    clear hq he4 DV kc0 kc1 d0 d1 iX
    have kc0 := fun o1 o2 => (((xR w4).al o1).al o2).cell (row2_cells e1).1
    have kc1 := fun o1 o2 => (((xR w4).al o1).al o2).cell (row2_cells e1).2
    have BT := mK (fun W (e : Ext w4 W) => rbits_c _ (X) W (iY.out.ext e) (by omega))
    replace e0 := mK e0
    replace e1 := mK e1
    go_wp2_with fail
    refine (BT.out _ (((xR w4).al _).al _)).mono ?_
    rintro e w6 ⟨k, rfl, hk, he6⟩
    have b6 := he6.blk (show ((w4.alloc (.cells #[.bool q1, .slice q2 q3 q4] 50)).alloc (.cells #[.bool r1, .slice r2 r3 r4] 50)).heap[w4.heap.size + 1]? = some (.cells #[.bool r1, .slice r2 r3 r4] 50) from heap_at _ _ _ (by simp))
    have he46 := ((((xR w4).al _).al _).trans he6)
    have e0 := he46.blk e0.out
    have e1 := he46.blk e1.out
    replace b2 := mK (he46.blk b2.out)
    replace iY := mK (iY.out.ext he46)
    replace hr := mK (hr.out.ext he46)
    replace hEW := mK (hEW.out.trans he46)
    clear BT kc0 kc1 he6 he46
    have kc1 := row2_cells e1
    have kc6 := row2_cells b6
    replace e0 := mK e0
    replace e1 := mK e1
    replace b6 := mK b6
    by_cases hk1 : k = 1
    ·have hone := hk.2.2 hk1
     have hG1 : G = 1 := by
      have h := hgc.out
      unfold Int.gcd at h
      rw [hone, Nat.gcd_one_right] at h
      exact h.symm
     subst hk1
     have OF := mK (rof_c 1 w6 (by omega) (by omega))
     replace hG1 := mK hG1
     replace hone := mK hone
     clear hr iY kc1 kc6 hk
     go_wp2_with fail
     refine OF.out.mono ?_
     rintro e w7 ⟨v, rfl, h7, he7⟩
     have hBW := he7.blk b2.out
     have hEW0 := hEW.out.trans he7
     have h7 : IntR w7 v (G : Int) := by rw [hG1.out]; exact h7
     clear he7 OF hEW
     obtain ⟨nb, a2, n2, c2, rfl⟩ := h7.shape
     have hR := h7.flat hBW (by simp [flatV]) #[.bool nb, .slice a2 n2 c2]
     have hEW := hEW0.row (show w.heap.size ≤ w.heap.size + 2 by omega) #[.bool nb, .slice a2 n2 c2]
     replace hR := mK hR
     replace hEW := mK hEW
     clear h7 hEW0
     go_wp2_with (refine wpList_store_row rfl 50 (.tmp 4) (.tmp 29) rfl (w.heap.size + 2) #[.bool nb, .slice a2 n2 c2] rfl rfl 50 _ hBW (by kernel_rfl) rfl (by kernel_rfl) ?_)
     exact bodyPost_ret (results_cell_row rfl _ _ (w.heap.size + 2) 50 #[.bool nb, .slice a2 n2 c2] (0, 0) _ rfl (setRow_heap _ _ _ _ _ _ hBW) Tryz.underlying50 rfl (by kernel_rfl)) rfl ⟨_, rfl, hR.out, hEW.out⟩
    ·have hkb : (k == 1) = false := by rw [beq_eq_false_iff_ne]; exact hk1
     have hkr := hk.1
     have hkr2 := hk.2.1
     have CM := mK (rcommonI_c _ _ (X) ((Y).tmod (X)) w6 hX hnm iY.out hr.out)
     rw [hgt.out] at CM
     replace hk := mK hk
     replace hk1 := mK hk1
     clear hr iY
     go_wp2_with fail
     refine CM.out.mono ?_
     rintro e w7 ⟨v, rfl, h7, he7⟩
     have hBW := he7.blk b2.out
     have hEW0 := hEW.out.trans he7
     clear he7 CM hEW
     obtain ⟨nb, a2, n2, c2, rfl⟩ := h7.shape
     have hR := h7.flat hBW (by simp [flatV]) #[.bool nb, .slice a2 n2 c2]
     have hEW := hEW0.row (show w.heap.size ≤ w.heap.size + 2 by omega) #[.bool nb, .slice a2 n2 c2]
     replace hR := mK hR
     replace hEW := mK hEW
     clear h7 hEW0
     go_wp2_with (refine wpList_store_row rfl 50 (.tmp 4) (.tmp 32) rfl (w.heap.size + 2) #[.bool nb, .slice a2 n2 c2] rfl rfl 50 _ hBW (by kernel_rfl) rfl (by kernel_rfl) ?_)
     exact bodyPost_ret (results_cell_row rfl _ _ (w.heap.size + 2) 50 #[.bool nb, .slice a2 n2 c2] (0, 0) _ rfl (setRow_heap _ _ _ _ _ _ hBW) Tryz.underlying50 rfl (by kernel_rfl)) rfl ⟨_, rfl, hR.out, hEW.out⟩
set_option maxHeartbeats 1600000 in
theorem rturn_c (v : Value) (X : Int) (w : World) (hX : nl X ≤ 268435456) (h : IntR w v X) :
  Calls Tryz.prog 189 #[v] w fun e w' => ∃ v, e = .returned v ∧ IntR w' v (-X) ∧ Ext w w' := by
 have H1 := mK h
 obtain ⟨b, a, n, c, rfl⟩ := h.shape
 have hm := mK (fun v0 W (e : Ext w W) h1 => rminusI_c v0 (.agg #[.bool b, .slice a n c]) 0 X W (by unfold nl; simp [lim_zero]) (by omega) h1 (h.ext e))
 rw [show (0 : Int) - X = -X by omega] at hm
 have ho := mK (fun w => rof_c 0 w (by omega) (by omega))
 clear h
 go_enter Tryz.func189, Tryz.ntmps189
 go_wp2_with fail
 obtain ⟨wb, hwb⟩ : ∃ wb, wb = (w.alloc (.cells #[.bool b, .slice a n c] 50)).alloc (.cells #[.bool false, .slice none 0 0] 50) := ⟨_, rfl⟩
 have hE : Ext w wb := by rw [hwb]; exact ((xR w).al _).al _
 have h00 : ∀ W, Ext wb W → W.cell? ⟨w.heap.size, 0, none⟩ = some (.bool b) := fun W e => e.cell (by rw [hwb]; go_simp)
 have h01 : ∀ W, Ext wb W → W.cell? ⟨w.heap.size, 1, none⟩ = some (.slice a n c) := fun W e => e.cell (by rw [hwb]; go_simp)
 have hB : wb.heap[w.heap.size + 1]? = some (.cells #[.bool false, .slice none 0 0] 50) := by rw [hwb]; exact heap_at _ _ _ (by simp)
 rw [← hwb]
 replace hB := mK hB
 replace hE := mK hE
 clear hwb
 apply region_ext [.pred (fun W v => IntR W v 0), .val _, .pred (fun W v => IntR W v (-X))] (by kernel_rfl) (st_intRG _ (stable_vals _ (st_intRG _ trivial)))
 refine ⟨fun W hW _ => ?g0, fun v0 => ?_⟩
 case g0 =>
  go_simp
  refine (ho.out W).mono ?_
  rintro e w' ⟨v, rfl, h1, h2⟩
  exact ⟨v, rfl, h2, h1⟩
 refine ⟨fun W hW _ => by go_simp; exact ⟨xR _, rfl⟩, ?_⟩
 refine ⟨fun W hW hF => ?g2, fun v2 => fun W hW hF => ?fin⟩
 case g2 =>
  have h0 : IntR W v0 0 := hF.1 (by kernel_rfl)
  replace h0 := mK h0
  clear hF
  go_simp
  refine (hm.out _ W (hE.out.trans hW) h0.out).mono ?_
  rintro e w' ⟨v, rfl, h1, h2⟩
  exact ⟨v, rfl, h2, h1⟩
 case fin =>
  have h2 : IntR W v2 (-X) := hF.1 rfl
  have hBW := hW.blk hB.out
  have hEW0 := hE.out.trans hW
  clear hF h00 h01 hm ho hW
  go_simp
  obtain ⟨nb, a2, n2, c2, rfl⟩ := h2.shape
  have hR := h2.flat hBW (by simp [flatV]) #[.bool nb, .slice a2 n2 c2]
  have hEW := hEW0.row (show w.heap.size ≤ w.heap.size + 1 by omega) #[.bool nb, .slice a2 n2 c2]
  replace hR := mK hR
  replace hEW := mK hEW
  clear h2 hEW0
  go_wp2_with (refine wpList_store_row rfl 50 (.tmp 2) (.tmp 5) rfl (w.heap.size + 1) #[.bool nb, .slice a2 n2 c2] rfl rfl 50 _ hBW (by kernel_rfl) rfl (by kernel_rfl) ?_)
  exact bodyPost_ret (results_cell_row rfl _ _ (w.heap.size + 1) 50 #[.bool nb, .slice a2 n2 c2] (0, 0) _ rfl (setRow_heap _ _ _ _ _ _ hBW) Tryz.underlying50 rfl (by kernel_rfl)) rfl ⟨_, rfl, hR.out, hEW.out⟩
def NewF (lo : Nat) (v : Value) : Prop := ∀ b1 s1 b2 s2, v = .agg #[.bool b1, s1, .bool b2, s2] → NewV lo s1 ∧ NewV lo s2
set_option maxHeartbeats 3200000 in
theorem rlow_k (v1 v2 : Value) (X Y : Int) (w : World) (hX : nl X ≤ 268435456) (hY : nl Y ≤ 268435456) (hY0 : Y ≠ 0) (h1 : IntR w v1 X) (h2 : IntR w v2 Y) :
  Calls Tryz.prog 137 #[v1, v2] w fun e w' => ∃ v, e = .returned v ∧ FracR w' v (Rat.divInt X Y) ∧ Ext w w' ∧ (0 ≤ Y → NewF w.heap.size v) := by
 have H1 := mK h1
 have H2 := mK h2
 obtain ⟨b1, a1, n1, m1, rfl⟩ := h1.shape
 obtain ⟨b2, a2, n2, m2, rfl⟩ := h2.shape
 have en := low_num X Y
 have ed := low_den X Y hY0
 rw [if_neg hY0] at en
 have hg0 : Int.gcd X Y ≠ 0 := by
  intro h
  exact hY0 (Int.gcd_eq_zero_iff.1 h).2
 have hgl : nl (Int.gcd X Y : Nat) ≤ 268435456 := by
  refine nT (lim_mono ?_) hY
  rw [Int.natAbs_natCast]
  exact Nat.le_of_dvd (by omega) (by simpa using (Int.natAbs_dvd_natAbs.2 (Int.gcd_dvd_right X Y)))
 have hX2 := nT (tdiv_nl X (Int.gcd X Y)) hX
 have hY2 := nT (tdiv_nl Y (Int.gcd X Y)) hY
 have hs2 := tdiv_neg Y (Int.gcd X Y) hg0 (Int.gcd_dvd_right X Y)
 have CM := mK (fun W h h' => rcomm_c (.agg #[.bool b1, .slice a1 n1 m1]) (.agg #[.bool b2, .slice a2 n2 m2]) X Y W hX hY h h')
 generalize Int.gcd X Y = G at *
 obtain ⟨Q, hQ⟩ : ∃ Q, Q = Rat.divInt X Y := ⟨_, rfl⟩
 rw [← hQ] at en ed ⊢
 replace en := mK en
 replace ed := mK ed
 replace hQ := mK hQ
 replace hs2 := mK hs2
 replace hX := mK hX
 replace hY := mK hY
 replace hX2 := mK hX2
 replace hY2 := mK hY2
 replace hgl := mK hgl
 replace hg0 := mK hg0
 replace hY0 := mK hY0
 clear h1 h2
 go_enter Tryz.func137, Tryz.ntmps137
 go_wp2_with fail
 obtain ⟨wb, hwb⟩ : ∃ wb, wb = ((w.alloc (.cells #[.bool b1, .slice a1 n1 m1] 50)).alloc (.cells #[.bool b2, .slice a2 n2 m2] 50)).alloc (.cells #[.bool false, .slice none 0 0, .bool false, .slice none 0 0] 52) := ⟨_, rfl⟩
 rw [← hwb]
 have hE : Ext w wb := by rw [hwb]; exact (((xR w).al _).al _).al _
 have hB0 : wb.heap[w.heap.size]? = some (.cells #[.bool b1, .slice a1 n1 m1] 50) := by rw [hwb]; exact (heap_alloc_old _ _ (by simp; omega)).trans ((heap_alloc_old _ _ (by simp)).trans (heap_alloc_new _ _))
 have hB1 : wb.heap[w.heap.size + 1]? = some (.cells #[.bool b2, .slice a2 n2 m2] 50) := by rw [hwb]; exact (heap_alloc_old _ _ (by simp)).trans (heap_at _ _ _ (by simp))
 have hB2 : wb.heap[w.heap.size + 2]? = some (.cells #[.bool false, .slice none 0 0, .bool false, .slice none 0 0] 52) := by rw [hwb]; exact heap_at _ _ _ (by simp)
 clear hwb
 refine (CM.out wb (H1.out.ext hE) (H2.out.ext hE)).mono ?_
 rintro e w1 ⟨vg, rfl, hg, hE1⟩
 obtain ⟨bg, ag, ng, mg, rfl⟩ := hg.shape
 have hEw := hE.trans hE1
 have iX := H1.out.ext hEw
 have iY := H2.out.ext hEw
 have kc0 := fun o => ((xR w1).al o).cell (row2_cells (hE1.blk hB0)).1
 have kc1 := fun o => ((xR w1).al o).cell (row2_cells (hE1.blk hB0)).2
 have DX := mK (fun W (e : Ext w1 W) => rdivI_k _ _ X (G : Int) W (nT hX.out (by decide)) (nT hgl.out (by decide)) (by have := hg0.out; omega) (iX.ext e) (hg.ext e))
 have DY := mK (fun W (e : Ext w1 W) => rdivI_k _ _ Y (G : Int) W (nT hY.out (by decide)) (nT hgl.out (by decide)) (by have := hg0.out; omega) (iY.ext e) (hg.ext e))
 replace hB1 := mK (hE1.blk hB1)
 replace hB2 := mK (hE1.blk hB2)
 replace hEw := mK hEw
 clear CM H1 H2 hE hE1 hB0 hg iX iY
 go_wp2_with fail
 refine (DX.out _ ((xR w1).al _)).mono ?_
 rintro e w2 ⟨vn, vr, rfl, hn, hr, he2, hnn⟩
 replace hnn := mK (show NewI w.heap.size vn from fun b s e g hg => nT (by have := hEw.out.size; simp; omega) (hnn b s e g hg))
 obtain ⟨bn, an, nn, mn, rfl⟩ := hn.shape
 obtain ⟨br, ar, nr, mr, rfl⟩ := hr.shape
 have hb5 := he2.blk (show (w1.alloc (.cells #[.bool bg, .slice ag ng mg] 50)).heap[w1.heap.size]? = some (.cells #[.bool bg, .slice ag ng mg] 50) from heap_alloc_new _ _)
 have he12 := ((xR w1).al _).trans he2
 replace hB1 := he12.blk hB1.out
 replace hB2 := mK (he12.blk hB2.out)
 have kd0 := fun o1 o2 => (((xR w2).al o1).al o2).cell (row2_cells hB1).1
 have kd1 := fun o1 o2 => (((xR w2).al o1).al o2).cell (row2_cells hB1).2
 have kg0 := fun o1 o2 => (((xR w2).al o1).al o2).cell (row2_cells hb5).1
 have kg1 := fun o1 o2 => (((xR w2).al o1).al o2).cell (row2_cells hb5).2
 replace DY := mK (fun W (e : Ext w2 W) => DY.out W (he12.trans e))
 replace hEw := mK (hEw.out.trans he12)
 replace hn := mK hn
 clear hr he2 he12 hB1 hb5 DX kc0 kc1
 go_wp2_with fail
 refine (DY.out _ (((xR w2).al _).al _)).mono ?_
 rintro e w3 ⟨vd, vr, rfl, hd, hr, he3, hdn⟩
 replace hdn := mK (show NewI w.heap.size vd from fun b s e g hg => nT (by have := hEw.out.size; simp; omega) (hdn b s e g hg))
 obtain ⟨bd, ad, nd, md, rfl⟩ := hd.shape
 obtain ⟨be, ae, nde, me, rfl⟩ := hr.shape
 have hb6 := he3.blk (show ((w2.alloc (.cells #[.bool bn, .slice an nn mn] 50)).alloc (.cells #[.bool br, .slice ar nr mr] 50)).heap[w2.heap.size]? = some (.cells #[.bool bn, .slice an nn mn] 50) from (heap_alloc_old _ _ (by simp)).trans (heap_alloc_new _ _))
 have he23 := (((xR w2).al _).al _).trans he3
 replace hB2 := mK (he23.blk hB2.out)
 replace hn := mK (hn.out.ext he23)
 replace hEw := mK (hEw.out.trans he23)
 have SG := mK (fun W (e : Ext w3 W) => rsign_c _ (Y.tdiv (G : Nat)) W (hd.ext e) (nT hY2.out (by decide)))
 replace hd := mK hd
 replace hb6 := mK hb6
 clear hr he3 he23 DY kd0 kd1 kg0 kg1
 go_wp2_with fail
 refine (SG.out _ (((xR w3).al _).al _)).mono ?_
 rintro e w4 ⟨rfl, he4⟩
 have hb8 := he4.blk (show ((w3.alloc (.cells #[.bool bd, .slice ad nd md] 50)).alloc (.cells #[.bool be, .slice ae nde me] 50)).heap[w3.heap.size]? = some (.cells #[.bool bd, .slice ad nd md] 50) from (heap_alloc_old _ _ (by simp)).trans (heap_alloc_new _ _))
 have he34 := (((xR w3).al _).al _).trans he4
 have hb6 := he34.blk hb6.out
 replace hB2 := mK (he34.blk hB2.out)
 replace hn := mK (hn.out.ext he34)
 replace hd := mK (hd.out.ext he34)
 replace hEw := mK (hEw.out.trans he34)
 have hsr := sign_rng (Y.tdiv (G : Nat))
 have hsn : (Y.tdiv (G : Nat)).sign < 0 ↔ Y < 0 := by rw [Int.sign_neg_iff]; exact hs2.out
 have k60 := fun W (e : Ext w4 W) => e.cell (row2_cells hb6).1
 have k61 := fun W (e : Ext w4 W) => e.cell (row2_cells hb6).2
 have k80 := fun W (e : Ext w4 W) => e.cell (row2_cells hb8).1
 have k81 := fun W (e : Ext w4 W) => e.cell (row2_cells hb8).2
 clear SG he4 he34 hb6 hb8
 generalize (Y.tdiv (G : Nat)).sign = S at *
 by_cases hneg : Y < 0
 ·have hS := hsn.2 hneg
  have en := en.out
  have ed := ed.out
  rw [if_pos hneg] at en ed
  have T1 := mK (fun W (e : Ext w4 W) => rturn_c _ (X.tdiv (G : Nat)) W hX2.out (hn.out.ext e))
  have T2 := mK (fun W (e : Ext w4 W) => rturn_c _ (Y.tdiv (G : Nat)) W hY2.out (hd.out.ext e))
  rw [← en] at T1
  rw [← ed] at T2
  replace en := mK en
  replace ed := mK ed
  replace hneg := mK hneg
  replace hsn := mK hsn
  clear hn hd
  go_wp2_with fail
  apply region_ext [.val _, .pred (fun W v => IntR W v Q.num), .val _, .pred (fun W v => IntR W v (Q.den : Int))] (by kernel_rfl) (stable_vals _ (st_intRG _ (stable_vals _ (st_intRG _ trivial))))
  refine ⟨fun W hW _ => by go_simp; exact ⟨xR _, rfl⟩, ?_⟩
  refine ⟨fun W hW _ => ?h1, fun v1 => ?_⟩
  case h1 =>
   go_simp
   refine (T1.out W hW).mono ?_
   rintro e w' ⟨v, rfl, h1, h2⟩
   exact ⟨v, rfl, h2, h1⟩
  refine ⟨fun W hW _ => by go_simp; exact ⟨xR _, rfl⟩, ?_⟩
  refine ⟨fun W hW _ => ?h3, fun v3 => fun W hW hF => ?fin⟩
  case h3 =>
   go_simp
   refine (T2.out W hW).mono ?_
   rintro e w' ⟨v, rfl, h1, h2⟩
   exact ⟨v, rfl, h2, h1⟩
  case fin =>
   have J3 : IntR W v3 (Q.den : Int) := hF.1 rfl
   have J1 : IntR W v1 Q.num := hF.2.1 rfl
   obtain ⟨x1, x2, x3, x4, rfl⟩ := J1.shape
   obtain ⟨y1, y2, y3, y4, rfl⟩ := J3.shape
   have hBW := hW.blk hB2.out
   have hEW0 := hEw.out.trans hW
   have R : FracR W (.agg #[.bool x1, .slice x2 x3 x4, .bool y1, .slice y2 y3 y4]) Q := ⟨_, _, _, _, _, _, _, _, rfl, J1, J3⟩
   have FR := R.flat hBW (by simp [flatV]) #[.bool x1, .slice x2 x3 x4, .bool y1, .slice y2 y3 y4]
   have FE := hEW0.row (show w.heap.size ≤ w.heap.size + 2 by omega) #[.bool x1, .slice x2 x3 x4, .bool y1, .slice y2 y3 y4]
   replace FR := mK FR
   replace FE := mK FE
   clear hF J1 J3 R hEW0 T1 T2 k60 k61 k80 k81 hW
   go_simp
   go_wp2_with (refine wpList_store_row rfl 52 (.tmp 4) (.tmp 32) rfl (w.heap.size + 2) #[.bool x1, .slice x2 x3 x4, .bool y1, .slice y2 y3 y4] rfl rfl 52 _ hBW (by kernel_rfl) rfl (by kernel_rfl) ?_)
   exact bodyPost_ret (results_cell_row rfl _ _ (w.heap.size + 2) 52 #[.bool x1, .slice x2 x3 x4, .bool y1, .slice y2 y3 y4] (0, 0) _ rfl (setRow_heap _ _ _ _ _ _ hBW) Tryz.underlying52 rfl (by kernel_rfl)) rfl ⟨_, rfl, FR.out, FE.out, fun h => absurd h (by have := hneg.out; omega)⟩
 ·have hS : ¬ S < 0 := fun h => hneg (hsn.1 h)
  have en := en.out
  have ed := ed.out
  rw [if_neg hneg] at en ed
  have J1 := hn.out
  have J3 := hd.out
  rw [← en] at J1
  rw [← ed] at J3
  have hBW := hB2.out
  have R : FracR w4 (.agg #[.bool bn, .slice an nn mn, .bool bd, .slice ad nd md]) Q := ⟨_, _, _, _, _, _, _, _, rfl, J1, J3⟩
  have FR := R.flat hBW (by simp [flatV]) #[.bool bn, .slice an nn mn, .bool bd, .slice ad nd md]
  have FE := hEw.out.row (show w.heap.size ≤ w.heap.size + 2 by omega) #[.bool bn, .slice an nn mn, .bool bd, .slice ad nd md]
  have q60 := k60 w4 (xR _)
  have q61 := k61 w4 (xR _)
  have q80 := k80 w4 (xR _)
  have q81 := k81 w4 (xR _)
  replace FR := mK FR
  replace FE := mK FE
  replace en := mK en
  replace ed := mK ed
  replace hneg := mK hneg
  replace hsn := mK hsn
  clear J1 J3 R hn hd k60 k61 k80 k81
  go_wp2_with (refine wpList_store_row rfl 52 (.tmp 4) (.tmp 35) rfl (w.heap.size + 2) #[.bool bn, .slice an nn mn, .bool bd, .slice ad nd md] rfl rfl 52 _ hBW (by kernel_rfl) rfl (by kernel_rfl) ?_)
  exact bodyPost_ret (results_cell_row rfl _ _ (w.heap.size + 2) 52 #[.bool bn, .slice an nn mn, .bool bd, .slice ad nd md] (0, 0) _ rfl (setRow_heap _ _ _ _ _ _ hBW) Tryz.underlying52 rfl (by kernel_rfl)) rfl ⟨_, rfl, FR.out, FE.out, fun _ _ _ _ _ e => by cases e; exact ⟨hnn.out _ _ rfl, hdn.out _ _ rfl⟩⟩
theorem rlow_c (v1 v2 : Value) (X Y : Int) (w : World) (hX : nl X ≤ 268435456) (hY : nl Y ≤ 268435456) (hY0 : Y ≠ 0) (h1 : IntR w v1 X) (h2 : IntR w v2 Y) :
  Calls Tryz.prog 137 #[v1, v2] w fun e w' => ∃ v, e = .returned v ∧ FracR w' v (Rat.divInt X Y) ∧ Ext w w' :=
 (rlow_k v1 v2 X Y w hX hY hY0 h1 h2).mono fun _ _ ⟨v, h1, h2, h3, _⟩ => ⟨v, h1, h2, h3⟩
theorem rnought_f (w : World) : Calls Tryz.prog 46 #[] w fun e w' => ∃ v, e = .returned v ∧ FracR w' v 0 ∧ Ext w w' := by
 have o1 := mK (fun w => rof_c 1 w (by omega) (by omega))
 go_enter Tryz.func46, Tryz.ntmps46
 go_wp2_with fail
 refine (o1.out _).mono ?_
 rintro e w3 ⟨v, rfl, hv, hE3⟩
 obtain ⟨y1, y2, y3, y4, rfl⟩ := hv.shape
 have hBW := hE3.blk (heap_alloc_new _ _)
 have hEW0 := ((xR w).al _).trans hE3
 have hz : IntR w3 (.agg #[.bool false, .slice none 0 0]) 0 := ⟨.slice none 0 0, by simp, by simp [lim_zero]; exact magR_nil _⟩
 have R : FracR w3 (.agg #[.bool false, .slice none 0 0, .bool y1, .slice y2 y3 y4]) 0 := ⟨_, _, _, _, _, _, _, _, rfl, hz, hv⟩
 have FR := mK (R.flat hBW (by simp [flatV]) #[.bool false, .slice none 0 0, .bool y1, .slice y2 y3 y4])
 have FE := mK (hEW0.row (nR _) #[.bool false, .slice none 0 0, .bool y1, .slice y2 y3 y4])
 clear hv hE3 hz R hEW0
 go_wp2_with (refine wpList_store_row rfl 52 (.tmp 0) (.tmp 2) rfl w.heap.size #[.bool false, .slice none 0 0, .bool y1, .slice y2 y3 y4] rfl rfl 52 _ hBW (by kernel_rfl) rfl (by kernel_rfl) ?_)
 exact bodyPost_ret (results_cell_row rfl _ _ w.heap.size 52 #[.bool false, .slice none 0 0, .bool y1, .slice y2 y3 y4] (0, 0) _ rfl (setRow_heap _ _ _ _ _ _ hBW) Tryz.underlying52 rfl (by kernel_rfl)) rfl ⟨_, rfl, FR.out, FE.out⟩
set_option maxHeartbeats 3200000 in
theorem rcheck_f (v : Value) (o : Option Rat) (w : World) (h : AnyF w v o) :
  Calls Tryz.prog 192 #[v] w fun e w' => e = .returned (.int .i64 (if o.isSome then 0 else 1)) ∧ Ext w w' := by
 obtain ⟨b1, l1, b2, l2, ⟨a1, c1, a2, c2, rfl, h2, h3, h4, h5⟩, rfl⟩ := h
 have k1 := mK (fun w h => rcheck_c (.agg #[.bool b1, .slice a1 l1.length c1]) b1 l1 w h2 h)
 have k2 := mK (fun w h => rcheck_c (.agg #[.bool b2, .slice a2 l2.length c2]) b2 l2 w h3 h)
 replace h4 := mK h4
 replace h5 := mK h5
 by_cases g1 : goodI b1 l1 = true
 ·rw [if_pos g1] at k1
  by_cases g2 : goodI b2 l2 = true
  ·rw [if_pos g2] at k2
   obtain ⟨i1, n1⟩ := any_int h4.out g1
   obtain ⟨i2, n2⟩ := any_int h5.out g2
   have hn1 : nl (sg b1 (val l1)) ≤ 268435456 := nT n1 (by decide)
   have hn2 : nl (sg b2 (val l2)) ≤ 268435456 := nT n2 (by decide)
   have hr : (ratF b1 l1 b2 l2).isSome = decide (0 < sg b2 (val l2) ∧ Int.gcd (sg b1 (val l1)) (sg b2 (val l2)) = 1) := by
    unfold ratF okF
    rw [g1, g2]
    by_cases u1 : 0 < sg b2 (val l2) <;> by_cases u2 : Int.gcd (sg b1 (val l1)) (sg b2 (val l2)) = 1 <;> simp [u1, u2]
   rw [hr]
   clear hr g1 g2 h2 h3 n1 n2
   generalize sg b1 (val l1) = X at *
   generalize sg b2 (val l2) = Y at *
   have hsg := mK (fun w h => rsign_c (.agg #[.bool b2, .slice a2 l2.length c2]) Y w h (nT hn2 (by decide)))
   have hcm := mK (fun w h h' => rcomm_c (.agg #[.bool b1, .slice a1 l1.length c1]) (.agg #[.bool b2, .slice a2 l2.length c2]) X Y w hn1 hn2 h h')
   replace i1 := mK i1
   replace i2 := mK i2
   by_cases hy : 0 < Y
   ·have hs : Y.sign = 1 := Int.sign_eq_one_of_pos hy
    rw [hs] at hsg
    have hgl : nl (Int.gcd X Y : Nat) ≤ 1073741824 := by
     refine nT (lim_mono ?_) (nT hn2 (by decide))
     rw [Int.natAbs_natCast]
     exact Nat.le_of_dvd (by omega) (by simpa using (Int.natAbs_dvd_natAbs.2 (Int.gcd_dvd_right X Y)))
    have hof := mK (fun w => rof_c 1 w (by omega) (by omega))
    by_cases hg : Int.gcd X Y = 1
    ·rw [if_pos (decide_eq_true ⟨hy, hg⟩)]
     have hcp := mK (fun v1 v2 w h1 h2 => rbelow_c v1 v2 1 (Int.gcd X Y : Nat) w nl_one hgl h1 h2)
     rw [show decide ((1 : Int) < ((Int.gcd X Y : Nat) : Int)) = false by rw [hg]; rfl] at hcp
     clear hs hgl hn1 hn2
     generalize Int.gcd X Y = G at *
     replace hy := mK hy
     replace hg := mK hg
     go_enter Tryz.func192, Tryz.ntmps192
     go_wp2_with fail
     refine (k1.out _ (h4.out.ext ((xR w).al _))).mono ?_
     rintro e w1 ⟨rfl, hE1⟩
     have hb := row4_cells (hE1.blk (heap_alloc_new w _))
     have E1 := ((xR w).al _).trans hE1
     replace k2 := mK (k2.out w1 (h5.out.ext E1))
     replace hb := hb
     have hE1' := mK hE1
     replace E1 := mK E1
     clear hE1 k1
     go_wp2_with fail
     refine k2.out.mono ?_
     rintro e w2 ⟨rfl, hE2⟩
     have hE12 := hE1'.out.trans hE2
     replace hb := row4_cells (hE12.blk (heap_alloc_new w _))
     replace E1 := mK (E1.out.trans hE2)
     replace hE12 := mK hE12
     clear hE2 k2 hE1'
     go_wp2_with fail
     refine (hsg.out w2 (i2.out.ext E1.out)).mono ?_
     rintro e w3 ⟨rfl, hE3⟩
     replace hE12 := mK (hE12.out.trans hE3)
     replace hb := row4_cells (hE12.out.blk (heap_alloc_new w _))
     replace E1 := mK (E1.out.trans hE3)
     clear hE3
     go_wp2_with fail
     refine (hcm.out w3 (i1.out.ext E1.out) (i2.out.ext E1.out)).mono ?_
     rintro e w4 ⟨vg, rfl, hgv, hE4⟩
     obtain ⟨bg, ag, ng, mg, rfl⟩ := hgv.shape
     replace E1 := mK (E1.out.trans hE4)
     replace hgv := mK hgv
     clear hE4 hb hE12
     go_wp2_with fail
     obtain ⟨wc, hwc⟩ : ∃ wc, wc = w4.alloc (.cells #[.bool bg, .slice ag ng mg] 50) := ⟨_, rfl⟩
     have hEc : Ext w4 wc := by rw [hwc]; exact (xR _).al _
     have m0 : ∀ W', Ext wc W' → W'.cell? ⟨w4.heap.size, 0, none⟩ = some (.bool bg) := fun W' e => e.cell (by rw [hwc]; go_simp)
     have n0 : ∀ W', Ext wc W' → W'.cell? ⟨w4.heap.size, 1, none⟩ = some (.slice ag ng mg) := fun W' e => e.cell (by rw [hwc]; go_simp)
     rw [← hwc]
     replace hgv := mK (hgv.out.ext hEc)
     replace E1 := mK (E1.out.trans hEc)
     clear hwc hEc
     apply region_ext [.pred (fun W v => IntR W v 1), .val _, .val (.bool false)] (by kernel_rfl) (st_intRG _ (stable_vals _ (stable_vals _ trivial)))
     refine ⟨fun W hW hF => ?g0, fun v0 => ?_⟩
     case g0 =>
      go_simp
      refine (hof.out W).mono ?_
      rintro e w' ⟨v, rfl, h1, h2⟩
      exact ⟨v, rfl, h2, h1⟩
     refine ⟨fun W hW _ => by go_simp; exact ⟨xR _, rfl⟩, ?_⟩
     refine ⟨fun W hW hF => ?g2, fun W hW hF => ?fin⟩
     case g2 =>
      have d0 : IntR W v0 1 := hF.1 (by kernel_rfl)
      replace d0 := mK d0
      clear hF
      go_simp
      refine (hcp.out _ _ W d0.out (hgv.out.ext hW)).mono ?_
      rintro e w' ⟨rfl, hE'⟩
      exact ⟨rfl, hE'⟩
     case fin =>
      replace E1 := mK (E1.out.trans hW)
      clear hF m0 n0 hW
      go_simp
      go_wp2_with fail
      go_ret
      exact ⟨rfl, E1.out⟩
    ·rw [if_neg (fun h => hg (of_decide_eq_true h).2)]
     have hcp := mK (fun v1 v2 w h1 h2 => rbelow_c v1 v2 1 (Int.gcd X Y : Nat) w nl_one hgl h1 h2)
     have hg2 : Int.gcd X Y ≠ 0 := by
      intro h
      have := (Int.gcd_eq_zero_iff.1 h).2
      omega
     rw [show decide ((1 : Int) < ((Int.gcd X Y : Nat) : Int)) = true by simp; omega] at hcp
     replace hg2 := mK hg2
     clear hs hgl hn1 hn2
     generalize Int.gcd X Y = G at *
     replace hy := mK hy
     replace hg := mK hg
     go_enter Tryz.func192, Tryz.ntmps192
     go_wp2_with fail
     refine (k1.out _ (h4.out.ext ((xR w).al _))).mono ?_
     rintro e w1 ⟨rfl, hE1⟩
     have hb := row4_cells (hE1.blk (heap_alloc_new w _))
     have E1 := ((xR w).al _).trans hE1
     replace k2 := mK (k2.out w1 (h5.out.ext E1))
     replace hb := hb
     have hE1' := mK hE1
     replace E1 := mK E1
     clear hE1 k1
     go_wp2_with fail
     refine k2.out.mono ?_
     rintro e w2 ⟨rfl, hE2⟩
     have hE12 := hE1'.out.trans hE2
     replace hb := row4_cells (hE12.blk (heap_alloc_new w _))
     replace E1 := mK (E1.out.trans hE2)
     replace hE12 := mK hE12
     clear hE2 k2 hE1'
     go_wp2_with fail
     refine (hsg.out w2 (i2.out.ext E1.out)).mono ?_
     rintro e w3 ⟨rfl, hE3⟩
     replace hE12 := mK (hE12.out.trans hE3)
     replace hb := row4_cells (hE12.out.blk (heap_alloc_new w _))
     replace E1 := mK (E1.out.trans hE3)
     clear hE3
     go_wp2_with fail
     refine (hcm.out w3 (i1.out.ext E1.out) (i2.out.ext E1.out)).mono ?_
     rintro e w4 ⟨vg, rfl, hgv, hE4⟩
     obtain ⟨bg, ag, ng, mg, rfl⟩ := hgv.shape
     replace E1 := mK (E1.out.trans hE4)
     replace hgv := mK hgv
     clear hE4 hb hE12
     go_wp2_with fail
     obtain ⟨wc, hwc⟩ : ∃ wc, wc = w4.alloc (.cells #[.bool bg, .slice ag ng mg] 50) := ⟨_, rfl⟩
     have hEc : Ext w4 wc := by rw [hwc]; exact (xR _).al _
     have m0 : ∀ W', Ext wc W' → W'.cell? ⟨w4.heap.size, 0, none⟩ = some (.bool bg) := fun W' e => e.cell (by rw [hwc]; go_simp)
     have n0 : ∀ W', Ext wc W' → W'.cell? ⟨w4.heap.size, 1, none⟩ = some (.slice ag ng mg) := fun W' e => e.cell (by rw [hwc]; go_simp)
     rw [← hwc]
     replace hgv := mK (hgv.out.ext hEc)
     replace E1 := mK (E1.out.trans hEc)
     clear hwc hEc
     apply region_ext [.pred (fun W v => IntR W v 1), .val _, .val (.bool true)] (by kernel_rfl) (st_intRG _ (stable_vals _ (stable_vals _ trivial)))
     refine ⟨fun W hW hF => ?g0, fun v0 => ?_⟩
     case g0 =>
      go_simp
      refine (hof.out W).mono ?_
      rintro e w' ⟨v, rfl, h1, h2⟩
      exact ⟨v, rfl, h2, h1⟩
     refine ⟨fun W hW _ => by go_simp; exact ⟨xR _, rfl⟩, ?_⟩
     refine ⟨fun W hW hF => ?g2, fun W hW hF => ?fin⟩
     case g2 =>
      have d0 : IntR W v0 1 := hF.1 (by kernel_rfl)
      replace d0 := mK d0
      clear hF
      go_simp
      refine (hcp.out _ _ W d0.out (hgv.out.ext hW)).mono ?_
      rintro e w' ⟨rfl, hE'⟩
      exact ⟨rfl, hE'⟩
     case fin =>
      replace E1 := mK (E1.out.trans hW)
      clear hF m0 n0 hW
      go_simp
      go_wp2_with fail
      go_ret
      exact ⟨rfl, E1.out⟩
   ·rw [if_neg (fun h => hy (of_decide_eq_true h).1)]
    have hs : Y.sign ≤ 0 := by
     rcases Int.lt_trichotomy Y 0 with h | h | h
     ·rw [Int.sign_eq_neg_one_of_neg h]; decide
     ·rw [h]; decide
     ·exact absurd h hy
    generalize Y.sign = S at *
    replace hy := mK hy
    go_enter Tryz.func192, Tryz.ntmps192
    go_wp2_with fail
    refine (k1.out _ (h4.out.ext ((xR w).al _))).mono ?_
    rintro e w1 ⟨rfl, hE1⟩
    have hb := row4_cells (hE1.blk (heap_alloc_new w _))
    have E1 := ((xR w).al _).trans hE1
    replace k2 := mK (k2.out w1 (h5.out.ext E1))
    replace hb := hb
    have hE1' := mK hE1
    replace E1 := mK E1
    clear hE1 k1
    go_wp2_with fail
    refine k2.out.mono ?_
    rintro e w2 ⟨rfl, hE2⟩
    have hE12 := hE1'.out.trans hE2
    replace hb := row4_cells (hE12.blk (heap_alloc_new w _))
    replace E1 := mK (E1.out.trans hE2)
    replace hE12 := mK hE12
    clear hE2 k2 hE1'
    go_wp2_with fail
    refine (hsg.out w2 (i2.out.ext E1.out)).mono ?_
    rintro e w3 ⟨rfl, hE3⟩
    replace E1 := mK (E1.out.trans hE3)
    clear hE3
    go_wp2_with fail
    go_ret
    exact ⟨rfl, E1.out⟩
  ·rw [if_neg g2] at k2
   have ho : ratF b1 l1 b2 l2 = none := by unfold ratF okF; simp [g2]
   rw [ho]
   clear ho g1 g2 h2 h3
   simp only [Option.isSome_none]
   rw [if_neg (by decide)]
   go_enter Tryz.func192, Tryz.ntmps192
   go_wp2_with fail
   refine (k1.out _ (h4.out.ext ((xR w).al _))).mono ?_
   rintro e w1 ⟨rfl, hE1⟩
   have hb := row4_cells (hE1.blk (heap_alloc_new w _))
   have E1 := ((xR w).al _).trans hE1
   replace k2 := mK (k2.out w1 (h5.out.ext E1))
   replace hb := hb
   have hE1' := mK hE1
   replace E1 := mK E1
   clear hE1 k1
   go_wp2_with fail
   refine k2.out.mono ?_
   rintro e w2 ⟨rfl, hE2⟩
   have hE12 := hE1'.out.trans hE2
   replace hb := row4_cells (hE12.blk (heap_alloc_new w _))
   replace E1 := mK (E1.out.trans hE2)
   replace hE12 := mK hE12
   clear hE2 k2 hE1'
   go_wp2_with fail
   go_ret
   exact ⟨rfl, E1.out⟩
 ·rw [if_neg g1] at k1
  have ho : ratF b1 l1 b2 l2 = none := by unfold ratF okF; simp [g1]
  rw [ho]
  clear ho g1 h2 h3
  simp only [Option.isSome_none]
  rw [if_neg (by decide)]
  go_enter Tryz.func192, Tryz.ntmps192
  go_wp2_with fail
  refine (k1.out _ (h4.out.ext ((xR w).al _))).mono ?_
  rintro e w1 ⟨rfl, hE1⟩
  replace hE1 := mK (((xR w).al _).trans hE1)
  go_wp2_with fail
  go_ret
  exact ⟨rfl, hE1.out⟩
set_option maxHeartbeats 1600000 in
theorem rchecks_f (g cap : Nat) (os : List (Option Rat)) (w : World) (hn : os.length ≤ 4294967296) (h : LF w g os) :
  Calls Tryz.prog 140 #[.slice (some ⟨g, 0, none⟩) os.length cap] w fun e w' => e = .returned (.bool (os.all Option.isSome)) ∧ Ext w w' := by
 replace h := mK h
 obtain ⟨n, hnn⟩ : ∃ n, n = os.length := ⟨_, rfl⟩
 rw [← hnn]
 obtain ⟨r, hr⟩ : ∃ r, r = os.all Option.isSome := ⟨_, rfl⟩
 rw [← hr]
 have hn2 : n ≤ 4294967296 := by omega
 replace hnn := mK hnn
 replace hr := mK hr
 clear hn
 obtain ⟨wo, hwo⟩ : ∃ wo : World, wo = w := ⟨_, rfl⟩
 go_enter Tryz.func140, Tryz.ntmps140
 go_wp2_with fail
 go_loopw [3] (fun i wr => ∃ k, k ≤ n ∧ i = .int .i64 (k : Nat) ∧ Ext wo wr ∧ ∀ j, j < k → (os.getD j none).isSome = true) (fun i _ => n - (intOf i).toNat)
 case atStart => exact ⟨0, Nat.zero_le _, rfl, hwo ▸ xR _, fun j hj => absurd hj (by omega)⟩
 case round =>
  obtain ⟨k, hk, rfl, hE, hj⟩ := hrel
  by_cases hlt : k < n
  ·obtain ⟨b1, a1, n1, c1, b2, a2, n2, c2, h1, h2, h3, h4, h5⟩ := (h.out.ext (hwo ▸ hE)) k (by rw [← hnn.out]; exact hlt)
   have hck := mK (fun w h => rcheck_f (.agg #[.bool b1, .slice a1 n1 c1, .bool b2, .slice a2 n2 c2]) (os.getD k none) w h)
   obtain ⟨o, ho⟩ : ∃ o, o = os.getD k none := ⟨_, rfl⟩
   rw [← ho] at hck h5
   replace h5 := mK h5
   replace hE := mK hE
   replace hj := mK hj
   replace ho := mK ho
   cases o with
   | none =>
    have hf : r = false := by
     rw [hr.out, Bool.eq_false_iff]
     intro e
     rw [List.all_eq_true] at e
     have hkl : k < os.length := by rw [← hnn.out]; exact hlt
     have := e _ (List.getElem_mem hkl)
     have h2 := ho.out
     rw [List.getD_eq_getElem?_getD, List.getElem?_eq_getElem hkl] at h2
     simp at h2
     rw [← h2] at this
     cases this
    subst hf
    simp only [Option.isSome_none] at hck
    go_wp2_with fail
    refine (hck.out _ h5.out).mono ?_
    rintro e w2 ⟨rfl, hE2⟩
    replace hE := mK (hE.out.trans hE2)
    clear hE2 h1 h2 h3 h4
    go_wp2_with fail
    go_ret
    exact ⟨rfl, hwo ▸ hE.out⟩
   | some x =>
    simp only [Option.isSome_some] at hck
    go_wp2_with fail
    refine (hck.out _ h5.out).mono ?_
    rintro e w2 ⟨rfl, hE2⟩
    replace hE := mK (hE.out.trans hE2)
    clear hE2 h1 h2 h3 h4
    go_wp2_with fail
    go_roundw
    case rel =>
     refine ⟨k + 1, by omega, by go_num, hE.out, fun j hjk => ?_⟩
     rcases Nat.lt_or_ge j k with h | h
     ·exact hj.out j h
     ·obtain rfl : j = k := by omega
      rw [← ho.out]
      rfl
    case measure => simp [intOf] <;> omega
  ·obtain rfl : n = k := by omega
   have hf : r = true := by
    rw [hr.out, List.all_eq_true]
    intro x hx
    obtain ⟨j, hjl, rfl⟩ := List.getElem_of_mem hx
    have := hj j (by rw [hnn.out]; exact hjl)
    rwa [List.getD_eq_getElem?_getD, List.getElem?_eq_getElem hjl] at this
   subst hf
   replace hE := mK hE
   replace hj := mK hj
   go_wp2_with fail
   go_ret
   exact ⟨rfl, hwo ▸ hE.out⟩
end Go.Proofs.YtjelnmokcpoofaaGreatDoor
