/-
  Peaks: numbers that are none; the loop.
-/
import Derived.Test.YtbpjggljbkppaaaGreatDoorSame
import Derived.Test.YtbpjggljbkppaaaGreatDoorBookM
namespace Go.Proofs.YtbpjggljbkppaaaGreatDoor
open Go Go.RowKit Go.Proofs
def flV (x : Nat) : Value := .float .f64 x
theorem flV_get {xs : List Nat} {k : Nat} (h : k < xs.length) : (xs.map flV).getD k undef = .float .f64 (xs.getD k 0) := by simp [h, flV]
theorem flV_ne {xs : List Nat} {k : Nat} (h : k < xs.length) : xs.map flV ≠ [] := by
  intro h0
  have := congrArg List.length h0
  simp at this
  subst this
  simp at h
/-- No number but those is none. -/
def Clean (xs : List Nat) (k : Nat) : Prop := ∀ j, j < k → nanB (xs.getD j 0) = false
theorem clean_any {xs : List Nat} (h : Clean xs xs.length) : xs.any nanB = false := by
  rw [List.any_eq_false]
  intro x hx
  obtain ⟨j, hj, rfl⟩ := List.getElem_of_mem hx
  have := h j hj
  simpa [hj] using this
theorem any_at {xs : List Nat} {k : Nat} (hk : k < xs.length) (h : nanB (xs.getD k 0) = true) : xs.any nanB = true := by
  rw [List.any_eq_true]
  exact ⟨xs[k], List.getElem_mem hk, by simpa [hk] using h⟩
theorem clean_next {xs : List Nat} {k : Nat} (h : Clean xs k) (h2 : nanB (xs.getD k 0) = false) : Clean xs (k + 1) := by
  intro j hj
  by_cases e : j = k
  · subst e; exact h2
  · exact h j (by omega)
set_option maxHeartbeats 800000 in
theorem indexNaN_c (a : Option Addr) (c : Nat) (xs : List Nat) (w : World) (hl : xs.length ≤ 1048576) (h : Row w a (xs.map flV)) :
    Calls Tryz.prog 106 #[.slice a xs.length c, .func (.func 70) #[] #[]] w fun e w' => ∃ r : Int, e = .returned (.int .i64 r) ∧ decide (0 ≤ r) = xs.any nanB ∧ w = w' := by
  obtain ⟨b, off, ha, hc⟩ := h
  replace ha := mkHid ha
  replace hc := mkHid hc
  go_enter Tryz.func106, Tryz.ntmps106
  go_wp2_with fail
  go_loopw [8] (fun i wr => ∃ k : Nat, k ≤ xs.length ∧ i = .int .i64 k ∧ Clean xs k ∧ wr = w) (fun i _ => xs.length - (intOf i).toNat)
  case atStart => exact ⟨0, Nat.zero_le _, rfl, fun j hj => absurd hj (Nat.not_lt_zero _), rfl⟩
  case round =>
    obtain ⟨k, hk, rfl, hcl, rfl⟩ := hrel
    replace hcl := mkHid hcl
    by_cases hlt : k < xs.length
    · have h1 := hc.out k (by simpa using hlt)
      rw [flV_get hlt] at h1
      have hA := ha.out (flV_ne hlt)
      rw [hA]
      replace hA := mkHid hA
      obtain ⟨x, hx⟩ : ∃ x, x = xs.getD k 0 := ⟨_, rfl⟩
      rw [← hx] at h1
      replace hx := mkHid hx
      by_cases hnan : nanB x = true
      · go_wp2_with (go_at_call 70; refine (isNaN_c x _).mono ?_; rintro e w' ⟨rfl, rfl⟩)
        go_ret
        exact ⟨k, rfl, by rw [any_at hlt (by rw [← hx.out]; exact hnan)]; simp, rfl⟩
      · have hnan2 : nanB x = false := by simpa using hnan
        have hnext := mkHid (clean_next hcl.out (by rw [← hx.out]; exact hnan2))
        go_wp2_with (go_at_call 70; refine (isNaN_c x _).mono ?_; rintro e w' ⟨rfl, rfl⟩)
        go_roundw
        case rel => exact ⟨k + 1, by omega, by go_num, hnext.out, by simp⟩
        case measure => simp [intOf] <;> omega
    · obtain rfl : k = xs.length := by omega
      go_wp2_with fail
      go_ret
      exact ⟨-1, rfl, by rw [clean_any hcl.out]; simp, rfl⟩
theorem containsNaN_c (a : Option Addr) (c : Nat) (xs : List Nat) (w : World) (hl : xs.length ≤ 1048576) (h : Row w a (xs.map flV)) :
    Calls Tryz.prog 69 #[.slice a xs.length c, .func (.func 70) #[] #[]] w fun e w' => e = .returned (.bool (xs.any nanB)) ∧ w = w' := by
  have hi := mkHid (indexNaN_c a c xs w hl h)
  go_enter Tryz.func69, Tryz.ntmps69
  go_wp2_with (go_at_call 106; refine hi.out.mono ?_; rintro e w' ⟨r, rfl, hr, rfl⟩)
  go_ret
  exact ⟨by rw [← hr]; rfl, rfl⟩
end Go.Proofs.YtbpjggljbkppaaaGreatDoor
