/-
  turn: the closure that units gives; Unit.
-/
import Derived.Test.YtbpjggljbkppaaaUnit2
namespace Go.Proofs.Ytbpjggljbkppaaa
open Go Go.RowKit Go.Proofs
/-- What is left to be multiplied: the parts of the bits below t. -/
def zrest (r : Nat) : Nat → Cx → Bool → Option Cx
  | 0, z, _ => some z
  | t + 1, z, f => if r &&& 2 ^ t = 0 then zrest r t z f else if f then zrest r t (partV 14 (16 - t)) false else (mulO z (partV 14 (16 - t))).bind fun y => zrest r t y false
theorem wraps_i63 (n : Int) (h₀ : 0 ≤ n) (h₁ : n < 2 ^ 63) : IntKind.i64.wrap n = n := by rw [IntKind.wrap_i64]; omega
theorem and63 (a b : Nat) (ha : a < 9223372036854775808) (hb : b < 9223372036854775808) : bits .and .i64 a b = ((a &&& b : Nat) : Int) := (bits_nat .i64 63 (by decide) wraps_i63 a b ha hb).1
def bval : Nat → Nat
  | 0 => 0
  | t + 1 => 2 ^ t
theorem bval_half (t : Nat) : bval (t + 1) / 2 = bval t := by
  cases t with
  | zero => rfl
  | succ t => show 2 ^ (t + 1) / 2 = 2 ^ t; rw [Nat.pow_succ]; omega
set_option maxRecDepth 100000 in
set_option maxHeartbeats 1600000 in
theorem unitsF_c (B q left : Nat) (m : Bool) (hq : q < 4) (hl : left ≤ 16384) (z0 res : Cx) (hz : zrest left 14 (oneF, 0) true = some z0) (hr : laidO z0 q m = some res) (w : World)
    (hc : ∀ i, i < 17 → w.cell? ⟨B, i, none⟩ = some (cxV (partV 14 i))) :
    Calls Try.prog 34 #[.agg #[.int .i64 q, .int .i64 left, .bool m], .pointer (some ⟨B, 0, none⟩)] w fun e w' => e = .returned (cxV res) ∧ Ext w w' := by
  have hla := fun w => laid_c z0 res q left m hq hr w
  replace hla := mkHid hla
  replace hr := mkHid hr
  replace hc := mkHid hc
  go_enter Try.func34, Try.ntmps34
  go_wp2_with fail
  go_quiet (fail)
  obtain ⟨W, hW⟩ : ∃ W, W = (w.alloc (.cells #[.int .i64 q, .int .i64 left, .bool m] 65)).drewN nq := ⟨_, rfl⟩
  have hE : Ext w W := by rw [hW]; exact ((Ext.refl w).al _).drN _
  have k0 : W.cell? ⟨w.heap.size, 0, none⟩ = some (.int .i64 q) := by rw [hW]; go_simp
  have k1 : W.cell? ⟨w.heap.size, 1, none⟩ = some (.int .i64 left) := by rw [hW]; go_simp
  have k2 : W.cell? ⟨w.heap.size, 2, none⟩ = some (.bool m) := by rw [hW]; go_simp
  rw [← hW]
  replace hW := mkHid hW
  go_wp2_with fail
  go_loop [6, 4, 5] (fun b z f => ∃ t zz ff, t ≤ 14 ∧ b = .int .i64 (bval t : Nat) ∧ z = cxV zz ∧ f = .bool ff ∧ zrest left t zz ff = some z0) (fun b _ _ => (intOf b).toNat)
  case atStart => exact ⟨14, _, _, by omega, rfl, rfl, rfl, hz⟩
  case round =>
    obtain ⟨t, zz, ff, ht, rfl, rfl, rfl, hz⟩ := hrel
    cases t with
    | zero =>
      rw [show ((bval 0 : Nat) : Int) = 0 from rfl]
      simp only [zrest, Option.some.injEq] at hz
      subst hz
      go_wp2_with (go_at_call 35; refine (hla.out _).mono ?_; rintro e w' ⟨rfl, hE2⟩)
      go_ret
      exact ⟨rfl, hE.trans hE2⟩
    | succ t =>
      rw [show ((bval (t + 1) : Nat) : Int) = ((2 ^ t : Nat) : Int) from rfl]
      have hbv : bval (t + 1) = 2 ^ t := rfl
      have hhalf := bval_half t
      rw [hbv] at hhalf
      clear hbv
      have hlt2 : 2 ^ t ≤ 8192 := Nat.pow_le_pow_right (by omega) (show t ≤ 13 by omega)
      have hpos : 0 < 2 ^ t := Nat.two_pow_pos t
      have hand := and63 left (2 ^ t) (by omega) (by omega)
      simp only [zrest] at hz
      obtain ⟨b, hb⟩ : ∃ b, b = 2 ^ t := ⟨_, rfl⟩
      rw [← hb] at hhalf hlt2 hpos hand hz ⊢
      have hbi : (b : Int) / 2 = (bval t : Nat) := by rw [← hhalf]; omega
      replace hb := mkHid hb
      replace hbi := mkHid hbi
      replace hhalf := mkHid hhalf
      by_cases h0 : left &&& b = 0
      · rw [if_pos h0] at hz
        have htest : (((left &&& b : Nat) : Int) == 0) = true := by rw [h0]; rfl
        replace h0 := mkHid h0
        replace hz := mkHid hz
        go_wp2_with fail
        go_round
        case rel => exact ⟨t, zz, ff, by omega, by rw [← hbi.out], rfl, rfl, hz.out⟩
        case measure => simp [intOf]; omega
      · rw [if_neg h0] at hz
        have htest : (((left &&& b : Nat) : Int) == 0) = false := by simp; omega
        replace h0 := mkHid h0
        have hb0 := hb
        replace hz := mkHid hz
        go_wp2_with fail
        go_loop [8, 9] (fun i k => ∃ u : Nat, u ≤ t ∧ i = .int .i64 (16 - (t : Int) + u) ∧ k = .int .i64 ((2 ^ u : Nat) : Int)) (fun _ k => (intOf k).toNat)
        case atStart => exact ⟨t, Nat.le_refl _, by go_num, by rw [hb.out]⟩
        case round =>
          obtain ⟨u, hu, rfl, rfl⟩ := hrel
          cases u with
          | zero =>
            rw [show (16 : Int) - t + ((0 : Nat) : Int) = ((16 - t : Nat) : Int) by omega, show ((2 ^ 0 : Nat) : Int) = 1 from rfl]
            have hcell := hE.cell (hc.out (16 - t) (by omega))
            have hix : 16 - t < 17 := by omega
            obtain ⟨i, hi⟩ : ∃ i, i = 16 - t := ⟨_, rfl⟩
            rw [← hi] at hcell hix ⊢
            have hz1 := hz.out
            rw [← hi] at hz1
            generalize partV 14 i = pv at hcell hz1
            replace hi := mkHid hi
            cases ff with
            | true =>
              rw [if_pos rfl] at hz1
              replace hz1 := mkHid hz1
              go_wp2_with fail
              go_round
              case rel => exact ⟨t, pv, false, by omega, by rw [← hbi.out], rfl, rfl, hz1.out⟩
              case measure => simp [intOf]; omega
            | false =>
              rw [if_neg (by simp), Option.bind_eq_some_iff] at hz1
              obtain ⟨y, hy, hz1⟩ := hz1
              have hm := fun w => cmul_c zz pv y hy w
              replace hm := mkHid hm
              replace hy := mkHid hy
              replace hz1 := mkHid hz1
              go_wp2_with (go_at_call 21; refine (hm.out _).mono ?_; rintro e w' ⟨rfl, rfl⟩)
              go_round
              case rel => exact ⟨t, y, false, by omega, by rw [← hbi.out], rfl, rfl, hz1.out⟩
              case measure => simp [intOf]; omega
          | succ u =>
            have hp : 2 ^ (u + 1) = 2 * 2 ^ u := by rw [Nat.pow_succ]; omega
            have hp2 : 0 < 2 ^ u := Nat.two_pow_pos u
            have hp3 : 2 ^ u ≤ 8192 := Nat.pow_le_pow_right (by omega) (show u ≤ 13 by omega)
            obtain ⟨k, hk⟩ : ∃ k, k = 2 ^ u := ⟨_, rfl⟩
            rw [← hk] at hp hp2 hp3
            rw [hp]
            rw [show ((2 * k : Nat) : Int) = 2 * (k : Int) by omega]
            replace hk := mkHid hk
            replace hp := mkHid hp
            have hh : (2 * (k : Int)) / 2 = k := by omega
            replace hh := mkHid hh
            clear hand htest
            go_wp2_with fail
            go_round
            case rel => exact ⟨u, by omega, by go_num, by rw [← hk.out]⟩
            case measure => simp [intOf]; omega
def unitO (k : Int) (n : Nat) : Option Cx :=
  if 0 ≤ jOf k n ∧ jOf k n < 65536 then (zrest (leftOf (jOf k n).toNat) 14 (oneF, 0) true).bind fun z => laidO z ((jOf k n).toNat / 16384) (decide (8192 < (jOf k n).toNat % 16384)) else none
theorem leftOf_le (j : Nat) : leftOf j ≤ 16384 := by unfold leftOf; split <;> omega
theorem parts_cell (w : World) (i : Nat) (h : i < 17) : (partsW w 14).cell? ⟨w.heap.size, i, none⟩ = some (cxV (partV 14 i)) := by
  unfold partsW
  simp only [World.cell?, heap_alloc_new]
  exact partsL_old 14 i h
set_option maxHeartbeats 800000 in
theorem unit_c (k : Int) (n : Nat) (hn : n ≤ 16) (z : Cx) (h : unitO k n = some z) (w : World) :
    Calls Try.prog 20 #[.int .i64 k, .int .i64 n] w fun e w' => e = .returned (.tuple #[cxV z, .int .i64 0]) ∧ Ext w w' := by
  unfold unitO at h
  by_cases hj : 0 ≤ jOf k n ∧ jOf k n < 65536
  · rw [if_pos hj, Option.bind_eq_some_iff] at h
    obtain ⟨z0, h1, h2⟩ := h
    obtain ⟨j, hjj⟩ := Int.eq_ofNat_of_zero_le hj.1
    have hj2 : j < 65536 := by omega
    rw [hjj] at h1 h2
    rw [Int.toNat_natCast] at h1 h2
    have ha := fun w => at_c k n j hn hjj hj2 w
    have hu := fun B w => unitsF_c B (j / 16384) (leftOf j) (decide (8192 < j % 16384)) (by omega) (leftOf_le j) z0 z h1 h2 w
    have hcn := fun w => counted_c (n : Int) (by omega) (by omega) w
    replace ha := mkHid ha
    replace hu := mkHid hu
    replace hcn := mkHid hcn
    clear h1 h2 hj hjj
    go_enter Try.func20, Try.ntmps20
    go_wp2_with (first
      | (go_at_call 27; refine (hcn.out _).mono ?_; rintro e w' ⟨rfl, rfl⟩)
      | (go_at_call 28; refine (units_c _).mono ?_; rintro e w1 ⟨rfl, hw1⟩; have hc1 := mkHid (fun i (hi : i < 17) => (hw1 ▸ parts_cell w i hi : w1.cell? ⟨w.heap.size, i, none⟩ = some (cxV (partV 14 i)))); have hE1 := mkHid (hw1 ▸ (Ext.refl w).al _ : Ext w w1); clear hw1)
      | (go_at_call 29; refine (ha.out _).mono ?_; rintro e w2 ⟨rfl, hE2⟩; replace hE2 := mkHid hE2)
      | (go_at_call 34; refine (hu.out _ _ (fun i hi => hE2.out.cell (hc1.out i hi))).mono ?_; rintro e w3 ⟨rfl, hE3⟩; replace hE3 := mkHid hE3))
    go_ret2
    exact ⟨rfl, (hE1.out.trans hE2.out).trans hE3.out⟩
  · rw [if_neg hj] at h
    cases h
end Go.Proofs.Ytbpjggljbkppaaa
