/-
  turn: units, its closure, Unit.
-/
import Derived.Test.YtbpjggljbkppaaaUnit
namespace Go.Proofs.Ytbpjggljbkppaaa
open Go Go.RowKit Go.Proofs
def oneF : Nat := 4607182418800017408
def twoF : Nat := 4611686018427387904
/-- The real parts and the imaginary parts, from the quarter on. -/
def cT : Nat → Nat
  | 0 => 0
  | j + 1 => sqF (fo .quo (fo .add oneF (cT j)) twoF)
def sT : Nat → Nat
  | 0 => oneF
  | j + 1 => if j = 0 then cT 1 else fo .quo (sT j) (fo .mul twoF (cT (j + 1)))
def roundV (j : Nat) : Bool := fv .add oneF (cT j) && fv .quo (fo .add oneF (cT j)) twoF && sqV (fo .quo (fo .add oneF (cT j)) twoF) && fv .mul twoF (cT (j + 1)) && fv .quo (sT j) (fo .mul twoF (cT (j + 1)))
theorem roundV_all : (List.range 14).all roundV = true := by decide +kernel
theorem roundV_at {j : Nat} (h : j < 14) : roundV j = true := List.all_eq_true.1 roundV_all j (List.mem_range.2 h)
/-- A part of a turn, when so many are told. -/
def partV (j i : Nat) : Cx := if 3 ≤ i ∧ i < 3 + j then (cT (i - 2), sT (i - 2)) else (0, 0)
def partsL (j : Nat) : List Value := (List.range 17).map fun i => cxV (partV j i)
theorem partsL_set (j : Nat) (h : j < 14) : (partsL j).set (3 + j) (cxV (cT (j + 1), sT (j + 1))) = partsL (j + 1) := by
  apply List.ext_getElem
  · simp [partsL]
  · intro i h1 h2
    have hi : i < 17 := by simpa [partsL] using h2
    rw [List.getElem_set]
    by_cases e : 3 + j = i
    · subst e
      simp [partsL, partV, show 3 + j - 2 = j + 1 by omega]
    · rw [if_neg e]
      simp only [partsL, List.getElem_map, List.getElem_range, partV]
      have : (3 ≤ i ∧ i < 3 + j) ↔ (3 ≤ i ∧ i < 3 + (j + 1)) := by omega
      simp only [this]
def partsW (w : World) (j : Nat) : World := w.alloc (.cells (partsL j).toArray 68)
theorem partsL_old (j i : Nat) (h : i < 17) : (partsL j).toArray[i]? = some (cxV (partV j i)) := by simp [partsL, h]
set_option maxRecDepth 100000 in
set_option maxHeartbeats 800000 in
theorem units_c (w : World) :
    Calls Try.prog 28 #[] w fun e w' => e = .returned (.func (.func 34) #[] #[.pointer (some ⟨w.heap.size, 0, none⟩)]) ∧ w' = partsW w 14 := by
  go_enter Try.func28, Try.ntmps28
  go_wp2_with fail
  go_loopw [2, 3, 4] (fun c s i wr => ∃ j : Nat, j ≤ 14 ∧ c = .float .f64 (cT j) ∧ s = .float .f64 (sT j) ∧ i = .int .i64 (3 + j : Nat) ∧ wr = partsW w j) (fun _ _ i _ => 17 - (intOf i).toNat)
  case atStart => exact ⟨0, by omega, rfl, rfl, rfl, rfl⟩
  case round =>
    obtain ⟨j, hj, rfl, rfl, rfl, rfl⟩ := hrel
    by_cases hlt : j < 14
    · have hv := roundV_at hlt
      unfold roundV at hv
      simp only [Bool.and_eq_true] at hv
      obtain ⟨⟨⟨⟨v1, v2⟩, v3⟩, v4⟩, v5⟩ := hv
      have r1 := run_fo (P := Try.prog) v1
      have r2 := run_fo (P := Try.prog) v2
      have r4 := run_fo (P := Try.prog) v4
      have r5 := run_fo (P := Try.prog) v5
      have hs := fun w => sqrt_c _ v3 w
      have hset := partsL_set j hlt
      have hold := partsL_old j (3 + j) (by omega)
      obtain ⟨old, hold⟩ : ∃ old, (partsL j).toArray[3 + j]? = some old := ⟨_, hold⟩
      have hss : sT (j + 1) = if j = 0 then cT (j + 1) else fo .quo (sT j) (fo .mul twoF (cT (j + 1))) := by
        show (if j = 0 then cT 1 else fo .quo (sT j) (fo .mul twoF (cT (j + 1)))) = _
        by_cases h : j = 0
        · rw [if_pos h, if_pos h, h]
        · rw [if_neg h, if_neg h]
      have hcc : cT (j + 1) = sqF (fo .quo (fo .add oneF (cT j)) twoF) := rfl
      rw [← hcc] at hs
      generalize hC1 : cT (j + 1) = c1 at *
      replace hC1 := mkHid hC1
      generalize cT j = c0 at *
      generalize hS1 : sT (j + 1) = s1 at *
      replace hS1 := mkHid hS1
      generalize sT j = s0 at *
      generalize fo .add oneF c0 = f1 at *
      generalize fo .quo f1 twoF = f2 at *
      generalize fo .mul twoF c1 = f4 at *
      generalize fo .quo s0 f4 = f5 at *
      have hset2 : ((partsL j).toArray).setIfInBounds (3 + j) (.complex .f64 c1 s1) = (partsL (j + 1)).toArray := by rw [← hset]; simp [cxV]
      unfold oneF at r1
      unfold twoF at r2 r4
      clear v1 v2 v3 v4 v5 hset
      replace hcc := mkHid hcc
      replace hs := mkHid hs
      replace hset2 := mkHid hset2
      unfold partsW
      generalize (partsL j).toArray = arr at *
      by_cases h0 : j = 0
      · subst h0
        have hs1 : s1 = c1 := by simpa using hss
        subst hs1
        clear hss
        go_wp2_with (go_at_call 33; refine (hs.out _).mono ?_; rintro e w' ⟨rfl, rfl⟩)
        go_roundw
        case rel => exact ⟨1, by omega, by rw [← hC1.out], by rw [← hS1.out], rfl, by rw [← hset2.out]⟩
        case measure => simp [intOf] <;> omega
      · have hs1 : s1 = f5 := by rw [hss, if_neg h0]
        subst hs1
        clear hss
        go_wp2_with (go_at_call 33; refine (hs.out _).mono ?_; rintro e w' ⟨rfl, rfl⟩)
        go_roundw
        case rel => exact ⟨j + 1, by omega, by rw [hC1.out], by rw [hS1.out], by go_num, by rw [← hset2.out]⟩
        case measure => simp [intOf] <;> omega
    · obtain rfl : j = 14 := by omega
      obtain ⟨W, hW⟩ : ∃ W, W = partsW w 14 := ⟨_, rfl⟩
      rw [← hW]
      replace hW := mkHid hW
      go_wp2_with fail
      go_ret
      exact ⟨rfl, hW.out⟩
end Go.Proofs.Ytbpjggljbkppaaa
