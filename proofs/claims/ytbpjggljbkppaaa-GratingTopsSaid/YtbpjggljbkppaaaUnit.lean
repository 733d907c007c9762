/-
  turn: Turn of cplx, laid, counted, at.
-/
import Derived.Test.YtbpjggljbkppaaaCplx
namespace Go.Proofs.Ytbpjggljbkppaaa
open Go Go.RowKit Go.Proofs
def turnN (z : Cx) : Nat → Cx
  | 0 => z
  | k + 1 => (ngF (turnN z k).2, (turnN z k).1)
theorem and3 (q : Nat) (h : q < 4) : bits .and .i64 (q : Int) 3 = q := by
  have : ∀ q : Fin 4, bits .and .i64 ((q.val : Nat) : Int) 3 = (q.val : Nat) := by decide +kernel
  exact this ⟨q, h⟩
theorem turn_c (z : Cx) (q : Nat) (h : q < 4) (w : World) : Calls Try.prog 37 #[cxV z, .int .i64 q] w fun e w' => e = .returned (cxV (turnN z q)) ∧ w = w' := by
  have h3 := and3 q h
  go_enter Try.func37, Try.ntmps37
  go_wp2_with fail
  clear h3
  go_loop [7, 0] (fun i v => ∃ k : Nat, k ≤ q ∧ i = .int .i64 k ∧ v = cxV (turnN z k)) (fun i _ => q - (intOf i).toNat)
  case atStart => exact ⟨0, Nat.zero_le _, rfl, rfl⟩
  case round =>
    obtain ⟨k, hk, rfl, rfl⟩ := hrel
    by_cases hlt : k < q
    · obtain ⟨y, hy⟩ : ∃ y, y = turnN z k := ⟨_, rfl⟩
      have hn : turnN z (k + 1) = (ngF y.2, y.1) := by rw [hy]; rfl
      rw [← hy]
      replace hy := mkHid hy
      replace hn := mkHid hn
      unfold cxV
      go_wp2_with fail
      go_round
      case rel => exact ⟨k + 1, by omega, by go_num, by rw [hn.out]⟩
      case measure => simp [intOf]; omega
    · obtain rfl : k = q := by omega
      go_wp2_with fail
      go_ret
      exact ⟨rfl, rfl⟩
def laidO (z : Cx) (q : Nat) (m : Bool) : Option Cx := addO (turnN (if m then (z.2, z.1) else z) q) (0, 0)
theorem laid_c (z r : Cx) (q left : Nat) (m : Bool) (hq : q < 4) (h : laidO z q m = some r) (w : World) :
    Calls Try.prog 35 #[.agg #[.int .i64 q, .int .i64 left, .bool m], cxV z] w fun e w' => e = .returned (cxV r) ∧ Ext w w' := by
  simp only [laidO, addO, Option.bind_eq_some_iff, Option.some.injEq] at h
  obtain ⟨x, hx, y, hy, rfl⟩ := h
  have r1 := fun t (w : World) => run_float_arith (P := Try.prog) w .add t .f64 _ _ _ hx
  have r2 := fun t (w : World) => run_float_arith (P := Try.prog) w .add t .f64 _ _ _ hy
  clear hx hy
  have ht := fun z w => turn_c z q hq w
  replace ht := mkHid ht
  replace hq := mkHid hq
  cases m with
  | true =>
    obtain ⟨a, b⟩ := z
    simp only [if_true] at r1 r2
    obtain ⟨u, hu⟩ : ∃ u, u = turnN (b, a) q := ⟨_, rfl⟩
    rw [← hu] at r1 r2
    replace hu := mkHid hu
    unfold cxV
    go_enter Try.func35, Try.ntmps35
    go_wp2_with (go_at_call 37; refine (ht.out (b, a) _).mono ?_; rintro e w' ⟨rfl, rfl⟩; rw [← hu.out]; unfold cxV)
    go_ret
    exact ⟨rfl, (Ext.refl _).al _⟩
  | false =>
    obtain ⟨a, b⟩ := z
    simp only [Bool.false_eq_true, if_false] at r1 r2
    obtain ⟨u, hu⟩ : ∃ u, u = turnN (a, b) q := ⟨_, rfl⟩
    rw [← hu] at r1 r2
    replace hu := mkHid hu
    unfold cxV
    go_enter Try.func35, Try.ntmps35
    go_wp2_with (go_at_call 37; refine (ht.out (a, b) _).mono ?_; rintro e w' ⟨rfl, rfl⟩; rw [← hu.out]; unfold cxV)
    go_ret
    exact ⟨rfl, (Ext.refl _).al _⟩
theorem counted_c (n : Int) (h0 : 0 ≤ n) (h1 : n ≤ 16) (w : World) : Calls Try.prog 27 #[.int .i64 n] w fun e w' => e = .returned (.int .i64 0) ∧ w = w' := by
  go_enter Try.func27, Try.ntmps27
  go_wp2_with fail
  go_ret
  exact ⟨rfl, rfl⟩
/-- The place of so many parts, as it is reckoned. -/
def jOf (k : Int) (n : Nat) : Int := wrap64 (bits .and .i64 k (wrap64 (wrap64 (2 ^ n) - 1)) * 2 ^ (16 - n))
def leftOf (j : Nat) : Nat := if 8192 < j % 16384 then 16384 - j % 16384 else j % 16384
theorem at_c (k : Int) (n j : Nat) (hn : n ≤ 16) (h : jOf k n = j) (hj : j < 65536) (w : World) :
    Calls Try.prog 29 #[.int .i64 k, .int .i64 n] w fun e w' => e = .returned (.agg #[.int .i64 (j / 16384 : Nat), .int .i64 (leftOf j : Nat), .bool (decide (8192 < j % 16384))]) ∧ Ext w w' := by
  have hm : (j : Int).tmod 16384 = (j % 16384 : Nat) := by rw [Int.tmod_eq_emod_of_nonneg (by omega)]; omega
  unfold jOf at h
  obtain ⟨l, hl⟩ : ∃ l, l = j % 16384 := ⟨_, rfl⟩
  obtain ⟨q, hq⟩ : ∃ q, q = j / 16384 := ⟨_, rfl⟩
  have hll : l < 16384 := by rw [hl]; exact Nat.mod_lt _ (by omega)
  unfold leftOf
  rw [← hl, ← hq]
  have e1 : (j : Int) % 16384 = l := by rw [hl]; omega
  have e2 : (j : Int) / 16384 = q := by rw [hq]; omega
  clear hm
  replace hl := mkHid hl
  replace hq := mkHid hq
  by_cases hlt : 8192 < l
  · have hd : decide (8192 < l) = true := by simpa using hlt
    have hi : (16384 : Int) - l = ((16384 - l : Nat) : Int) := by omega
    rw [hd, if_pos hlt, ← hi]
    replace hi := mkHid hi
    clear hd
    go_enter Try.func29, Try.ntmps29
    go_wp2_with fail
    exact bodyPost_ret (v := .agg #[.int .i64 q, .int .i64 (16384 - l), .bool true]) (by simp [results, Try.results29, go_sem]) rfl ⟨rfl, ((Ext.refl _).al _).al _⟩
  · have hd : decide (8192 < l) = false := by simpa using hlt
    rw [hd, if_neg hlt]
    clear hd
    go_enter Try.func29, Try.ntmps29
    go_wp2_with fail
    exact bodyPost_ret (v := .agg #[.int .i64 q, .int .i64 l, .bool false]) (by simp [results, Try.results29, go_sem]) rfl ⟨rfl, ((Ext.refl _).al _).al _⟩
end Go.Proofs.Ytbpjggljbkppaaa
