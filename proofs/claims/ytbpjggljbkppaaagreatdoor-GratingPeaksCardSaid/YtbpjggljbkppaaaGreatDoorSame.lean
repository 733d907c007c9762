/-
  Contracts of the comparing helpers: math.IsNaN, SameFloat, SameComplex.
-/
import Derived.Test.YtbpjggljbkppaaaGreatDoorProg
import Derived.Test.YtbpjggljbkppaaaGreatDoorBase
namespace Go.Proofs.YtbpjggljbkppaaaGreatDoor
open Go Go.RowKit Go.Proofs
/-- Is it no number? -/
def nanB (a : Nat) : Bool := FloatKind.f64.format.order a a != some .eq
def sameF (a b : Nat) : Bool := ((a : Int) == (b : Int)) || (nanB a && nanB b)
set_option maxHeartbeats 400000 in
theorem isNaN_c (a : Nat) (w : World) : Calls Tryz.prog 70 #[.float .f64 a] w fun e w' => e = .returned (.bool (nanB a)) ∧ w = w' := by
  go_enter Tryz.func70, Tryz.ntmps70
  go_wp2
  go_ret
  exact ⟨rfl, rfl⟩
theorem float64bits_run (b : Nat) (w : World) : (callFunc 107 #[.float .f64 b]).run Tryz.prog w = .ok (.value (.int .u64 b)) w := by
  rw [run_callFunc_extern Tryz.func107 (by kernel_rfl) (by kernel_rfl) (by kernel_rfl) (e := Extern.MathFloatBits.float64bits) (by kernel_rfl)]
  rfl
set_option maxHeartbeats 400000 in
theorem sameFloat_c (a b : Nat) (w : World) : Calls Tryz.prog 71 #[.float .f64 a, .float .f64 b] w fun e w' => e = .returned (.bool (sameF a b)) ∧ w = w' := by
  have hfb := float64bits_run
  go_enter Tryz.func71, Tryz.ntmps71
  go_wp2_with (go_at_call 70; refine (isNaN_c _ _).mono ?_; rintro e w' ⟨rfl, rfl⟩)
  · have h : a = b := by have : (a : Int) = b := by assumption
                         omega
    go_ret
    exact ⟨by simp [sameF, h], rfl⟩
  · go_ret
    have h2 : nanB a = true := by assumption
    exact ⟨by simp [sameF, h2], rfl⟩
  · go_ret
    have h2 : ¬ nanB a = true := by assumption
    exact ⟨by simp [sameF, h2], rfl⟩
def cxV (z : Nat × Nat) : Value := .complex .f64 z.1 z.2
def sameC (a b : Nat × Nat) : Bool := sameF a.1 b.1 && sameF a.2 b.2
set_option maxHeartbeats 400000 in
theorem sameComplex_c (x y u v : Nat) (w : World) : Calls Tryz.prog 19 #[.complex .f64 x y, .complex .f64 u v] w fun e w' => e = .returned (.bool (sameF x u && sameF y v)) ∧ w = w' := by
  go_enter Tryz.func19, Tryz.ntmps19
  go_wp2_with (go_at_call 71; refine (sameFloat_c _ _ _).mono ?_; rintro e w' ⟨rfl, rfl⟩)
  · go_ret
    have h : sameF x u = true := by assumption
    exact ⟨by simp [h], rfl⟩
  · go_ret
    have h : ¬ sameF x u = true := by assumption
    exact ⟨by simp [h], rfl⟩
theorem sameF_self (x : Nat) : sameF x x = true := by simp [sameF]
theorem sameComplex_self (x y : Nat) (w : World) : Calls Tryz.prog 19 #[.complex .f64 x y, .complex .f64 x y] w fun e w' => e = .returned (.bool true) ∧ w' = w :=
  (sameComplex_c x y x y w).mono fun _ _ h => ⟨by rw [h.1]; simp [sameF_self], h.2.symm⟩
set_option maxHeartbeats 400000 in
theorem sameComplexes_c (a a' : Option Addr) (c c' : Nat) (l : List (Nat × Nat)) (w : World) (hl : l.length ≤ 9223372036854775807)
    (h : Row w a (l.map cxV)) (h' : Row w a' (l.map cxV)) :
    Calls Tryz.prog 7 #[.slice a l.length c, .slice a' l.length c'] w fun e w' => e = .returned (.bool true) ∧ ∃ n, w' = w.drewN n := by
  obtain ⟨b, off, ha, hc⟩ := h
  obtain ⟨b', off', ha', hc'⟩ := h'
  go_enter Tryz.func7, Tryz.ntmps7
  go_wp2
  go_loopw [5] (fun i wr => ∃ k : Nat, k ≤ l.length ∧ i = .int .i64 k ∧ ∃ n, wr = w.drewN n) (fun i _ => l.length - (intOf i).toNat)
  case atStart => exact ⟨0, Nat.zero_le _, rfl, 0, rfl⟩
  case round =>
    obtain ⟨k, hk, rfl, hd⟩ := hrel
    by_cases hlt : k < l.length
    · have hne : l.map cxV ≠ [] := by
        intro h0
        have := congrArg List.length h0
        simp at this
        subst this
        simp at hlt
      have h1 := hc k (by simpa using hlt)
      have h2 := hc' k (by simpa using hlt)
      have hcx : (l.map cxV).getD k undef = .complex .f64 (l.getD k (0, 0)).1 (l.getD k (0, 0)).2 := by simp [hlt, cxV]
      rw [hcx] at h1 h2
      have h1 : wr.cell? _ = _ := (cell_drew hd _).trans h1
      have h2 : wr.cell? _ = _ := (cell_drew hd _).trans h2
      have hd := mkHid hd
      rw [ha hne, ha' hne]
      clear hc hc' ha ha' hcx hne
      go_wp2
      go_quiet ((go_at_call 19; exact Calls.quiet_of_same (sameComplex_self _ _ _)))
      go_wp2
      go_roundw
      case rel => exact ⟨k + 1, by omega, by go_num, drew_more hd.out _⟩
      case measure => simp [intOf] <;> omega
    · go_wp2
      go_ret
      exact ⟨rfl, hd⟩
end Go.Proofs.YtbpjggljbkppaaaGreatDoor
