/-
  The Book: what fill, grow and look do for a kind of which nothing is kept. The Book: marks; entries. The Book: the kind Limb.
-/
import Derived.Test.YtplhndmncjoghaaGreatDoorMAH
import Derived.Test.YtplhndmncjoghaaGreatDoorMAA
namespace Go.Proofs.YtplhndmncjoghaaGreatDoor
set_option maxRecDepth 100000
open Go Go.RowKit Go.Proofs
theorem fillLimb_e (bk : Nat) (w : World) (h : w.cell? ⟨bk, 1, none⟩ = some (.slice none 0 0)) : Calls Tryz.prog 42 #[.pointer (some ⟨bk, 0, none⟩)] w fun e w' => e = .returned (.tuple #[]) ∧ w = w' := by
  go_enter Tryz.func42, Tryz.ntmps42
  go_wp2_with fail
  go_loopw [2] (fun i wr => i = .int .i64 0 ∧ wr = w) (fun _ _ => 0)
  case atStart => simp
  case round =>
    obtain ⟨rfl, rfl⟩ := hrel
    go_wp2_with fail
    go_end0
    exact ⟨rfl, rfl⟩
theorem growLimb_e (bk : Nat) (w : World) (h : w.cell? ⟨bk, 1, none⟩ = some (.slice none 0 0)) : Calls Tryz.prog 58 #[.pointer (some ⟨bk, 0, none⟩)] w fun e w' => e = .returned (.tuple #[]) ∧ w = w' := by
  go_enter Tryz.func58, Tryz.ntmps58
  go_wp2_with fail
  go_loopw [2] (fun i wr => i = .int .i64 0 ∧ wr = w) (fun _ _ => 0)
  case atStart => simp
  case round =>
    obtain ⟨rfl, rfl⟩ := hrel
    go_wp2_with fail
    go_end0
    exact ⟨rfl, rfl⟩
theorem lookLimb_e (bk : Nat) (w : World) (h : w.cell? ⟨bk, 1, none⟩ = some (.slice none 0 0)) : Calls Tryz.prog 74 #[.pointer (some ⟨bk, 0, none⟩)] w fun e w' => e = .returned (.bool true) ∧ w = w' := by
  go_enter Tryz.func74, Tryz.ntmps74
  go_wp2_with fail
  go_loopw [3] (fun i wr => i = .int .i64 0 ∧ wr = w) (fun _ _ => 0)
  case atStart => simp
  case round =>
    obtain ⟨rfl, rfl⟩ := hrel
    go_wp2_with fail
    go_ret
    exact ⟨rfl, rfl⟩
theorem fillNumber_e (bk : Nat) (w : World) (h : w.cell? ⟨bk, 2, none⟩ = some (.slice none 0 0)) : Calls Tryz.prog 43 #[.pointer (some ⟨bk, 0, none⟩)] w fun e w' => e = .returned (.tuple #[]) ∧ w = w' := by
  go_enter Tryz.func43, Tryz.ntmps43
  go_wp2_with fail
  go_loopw [2] (fun i wr => i = .int .i64 0 ∧ wr = w) (fun _ _ => 0)
  case atStart => simp
  case round =>
    obtain ⟨rfl, rfl⟩ := hrel
    go_wp2_with fail
    go_end0
    exact ⟨rfl, rfl⟩
theorem growNumber_e (bk : Nat) (w : World) (h : w.cell? ⟨bk, 2, none⟩ = some (.slice none 0 0)) : Calls Tryz.prog 59 #[.pointer (some ⟨bk, 0, none⟩)] w fun e w' => e = .returned (.tuple #[]) ∧ w = w' := by
  go_enter Tryz.func59, Tryz.ntmps59
  go_wp2_with fail
  go_loopw [2] (fun i wr => i = .int .i64 0 ∧ wr = w) (fun _ _ => 0)
  case atStart => simp
  case round =>
    obtain ⟨rfl, rfl⟩ := hrel
    go_wp2_with fail
    go_end0
    exact ⟨rfl, rfl⟩
theorem lookNumber_e (bk : Nat) (w : World) (h : w.cell? ⟨bk, 2, none⟩ = some (.slice none 0 0)) : Calls Tryz.prog 75 #[.pointer (some ⟨bk, 0, none⟩)] w fun e w' => e = .returned (.bool true) ∧ w = w' := by
  go_enter Tryz.func75, Tryz.ntmps75
  go_wp2_with fail
  go_loopw [3] (fun i wr => i = .int .i64 0 ∧ wr = w) (fun _ _ => 0)
  case atStart => simp
  case round =>
    obtain ⟨rfl, rfl⟩ := hrel
    go_wp2_with fail
    go_ret
    exact ⟨rfl, rfl⟩
theorem fillFloat_e (bk : Nat) (w : World) (h : w.cell? ⟨bk, 3, none⟩ = some (.slice none 0 0)) : Calls Tryz.prog 44 #[.pointer (some ⟨bk, 0, none⟩)] w fun e w' => e = .returned (.tuple #[]) ∧ w = w' := by
  go_enter Tryz.func44, Tryz.ntmps44
  go_wp2_with fail
  go_loopw [2] (fun i wr => i = .int .i64 0 ∧ wr = w) (fun _ _ => 0)
  case atStart => simp
  case round =>
    obtain ⟨rfl, rfl⟩ := hrel
    go_wp2_with fail
    go_end0
    exact ⟨rfl, rfl⟩
theorem growFloat_e (bk : Nat) (w : World) (h : w.cell? ⟨bk, 3, none⟩ = some (.slice none 0 0)) : Calls Tryz.prog 60 #[.pointer (some ⟨bk, 0, none⟩)] w fun e w' => e = .returned (.tuple #[]) ∧ w = w' := by
  go_enter Tryz.func60, Tryz.ntmps60
  go_wp2_with fail
  go_loopw [2] (fun i wr => i = .int .i64 0 ∧ wr = w) (fun _ _ => 0)
  case atStart => simp
  case round =>
    obtain ⟨rfl, rfl⟩ := hrel
    go_wp2_with fail
    go_end0
    exact ⟨rfl, rfl⟩
theorem lookFloat_e (bk : Nat) (w : World) (h : w.cell? ⟨bk, 3, none⟩ = some (.slice none 0 0)) : Calls Tryz.prog 76 #[.pointer (some ⟨bk, 0, none⟩)] w fun e w' => e = .returned (.bool true) ∧ w = w' := by
  go_enter Tryz.func76, Tryz.ntmps76
  go_wp2_with fail
  go_loopw [3] (fun i wr => i = .int .i64 0 ∧ wr = w) (fun _ _ => 0)
  case atStart => simp
  case round =>
    obtain ⟨rfl, rfl⟩ := hrel
    go_wp2_with fail
    go_ret
    exact ⟨rfl, rfl⟩
theorem fillComplex_e (bk : Nat) (w : World) (h : w.cell? ⟨bk, 4, none⟩ = some (.slice none 0 0)) : Calls Tryz.prog 45 #[.pointer (some ⟨bk, 0, none⟩)] w fun e w' => e = .returned (.tuple #[]) ∧ w = w' := by
  go_enter Tryz.func45, Tryz.ntmps45
  go_wp2_with fail
  go_loopw [2] (fun i wr => i = .int .i64 0 ∧ wr = w) (fun _ _ => 0)
  case atStart => simp
  case round =>
    obtain ⟨rfl, rfl⟩ := hrel
    go_wp2_with fail
    go_end0
    exact ⟨rfl, rfl⟩
theorem growComplex_e (bk : Nat) (w : World) (h : w.cell? ⟨bk, 4, none⟩ = some (.slice none 0 0)) : Calls Tryz.prog 61 #[.pointer (some ⟨bk, 0, none⟩)] w fun e w' => e = .returned (.tuple #[]) ∧ w = w' := by
  go_enter Tryz.func61, Tryz.ntmps61
  go_wp2_with fail
  go_loopw [2] (fun i wr => i = .int .i64 0 ∧ wr = w) (fun _ _ => 0)
  case atStart => simp
  case round =>
    obtain ⟨rfl, rfl⟩ := hrel
    go_wp2_with fail
    go_end0
    exact ⟨rfl, rfl⟩
theorem lookComplex_e (bk : Nat) (w : World) (h : w.cell? ⟨bk, 4, none⟩ = some (.slice none 0 0)) : Calls Tryz.prog 77 #[.pointer (some ⟨bk, 0, none⟩)] w fun e w' => e = .returned (.bool true) ∧ w = w' := by
  go_enter Tryz.func77, Tryz.ntmps77
  go_wp2_with fail
  go_loopw [3] (fun i wr => i = .int .i64 0 ∧ wr = w) (fun _ _ => 0)
  case atStart => simp
  case round =>
    obtain ⟨rfl, rfl⟩ := hrel
    go_wp2_with fail
    go_ret
    exact ⟨rfl, rfl⟩
theorem fillText_e (bk : Nat) (w : World) (h : w.cell? ⟨bk, 5, none⟩ = some (.slice none 0 0)) : Calls Tryz.prog 46 #[.pointer (some ⟨bk, 0, none⟩)] w fun e w' => e = .returned (.tuple #[]) ∧ w = w' := by
  go_enter Tryz.func46, Tryz.ntmps46
  go_wp2_with fail
  go_loopw [2] (fun i wr => i = .int .i64 0 ∧ wr = w) (fun _ _ => 0)
  case atStart => simp
  case round =>
    obtain ⟨rfl, rfl⟩ := hrel
    go_wp2_with fail
    go_end0
    exact ⟨rfl, rfl⟩
theorem growText_e (bk : Nat) (w : World) (h : w.cell? ⟨bk, 5, none⟩ = some (.slice none 0 0)) : Calls Tryz.prog 62 #[.pointer (some ⟨bk, 0, none⟩)] w fun e w' => e = .returned (.tuple #[]) ∧ w = w' := by
  go_enter Tryz.func62, Tryz.ntmps62
  go_wp2_with fail
  go_loopw [2] (fun i wr => i = .int .i64 0 ∧ wr = w) (fun _ _ => 0)
  case atStart => simp
  case round =>
    obtain ⟨rfl, rfl⟩ := hrel
    go_wp2_with fail
    go_end0
    exact ⟨rfl, rfl⟩
theorem lookText_e (bk : Nat) (w : World) (h : w.cell? ⟨bk, 5, none⟩ = some (.slice none 0 0)) : Calls Tryz.prog 78 #[.pointer (some ⟨bk, 0, none⟩)] w fun e w' => e = .returned (.bool true) ∧ w = w' := by
  go_enter Tryz.func78, Tryz.ntmps78
  go_wp2_with fail
  go_loopw [3] (fun i wr => i = .int .i64 0 ∧ wr = w) (fun _ _ => 0)
  case atStart => simp
  case round =>
    obtain ⟨rfl, rfl⟩ := hrel
    go_wp2_with fail
    go_ret
    exact ⟨rfl, rfl⟩
theorem fillFrac_e (bk : Nat) (w : World) (h : w.cell? ⟨bk, 6, none⟩ = some (.slice none 0 0)) : Calls Tryz.prog 47 #[.pointer (some ⟨bk, 0, none⟩)] w fun e w' => e = .returned (.tuple #[]) ∧ w = w' := by
  go_enter Tryz.func47, Tryz.ntmps47
  go_wp2_with fail
  go_loopw [2] (fun i wr => i = .int .i64 0 ∧ wr = w) (fun _ _ => 0)
  case atStart => simp
  case round =>
    obtain ⟨rfl, rfl⟩ := hrel
    go_wp2_with fail
    go_end0
    exact ⟨rfl, rfl⟩
theorem growFrac_e (bk : Nat) (w : World) (h : w.cell? ⟨bk, 6, none⟩ = some (.slice none 0 0)) : Calls Tryz.prog 63 #[.pointer (some ⟨bk, 0, none⟩)] w fun e w' => e = .returned (.tuple #[]) ∧ w = w' := by
  go_enter Tryz.func63, Tryz.ntmps63
  go_wp2_with fail
  go_loopw [2] (fun i wr => i = .int .i64 0 ∧ wr = w) (fun _ _ => 0)
  case atStart => simp
  case round =>
    obtain ⟨rfl, rfl⟩ := hrel
    go_wp2_with fail
    go_end0
    exact ⟨rfl, rfl⟩
theorem lookFrac_e (bk : Nat) (w : World) (h : w.cell? ⟨bk, 6, none⟩ = some (.slice none 0 0)) : Calls Tryz.prog 79 #[.pointer (some ⟨bk, 0, none⟩)] w fun e w' => e = .returned (.bool true) ∧ w = w' := by
  go_enter Tryz.func79, Tryz.ntmps79
  go_wp2_with fail
  go_loopw [3] (fun i wr => i = .int .i64 0 ∧ wr = w) (fun _ _ => 0)
  case atStart => simp
  case round =>
    obtain ⟨rfl, rfl⟩ := hrel
    go_wp2_with fail
    go_ret
    exact ⟨rfl, rfl⟩
theorem fillGauss_e (bk : Nat) (w : World) (h : w.cell? ⟨bk, 7, none⟩ = some (.slice none 0 0)) : Calls Tryz.prog 48 #[.pointer (some ⟨bk, 0, none⟩)] w fun e w' => e = .returned (.tuple #[]) ∧ w = w' := by
  go_enter Tryz.func48, Tryz.ntmps48
  go_wp2_with fail
  go_loopw [2] (fun i wr => i = .int .i64 0 ∧ wr = w) (fun _ _ => 0)
  case atStart => simp
  case round =>
    obtain ⟨rfl, rfl⟩ := hrel
    go_wp2_with fail
    go_end0
    exact ⟨rfl, rfl⟩
theorem growGauss_e (bk : Nat) (w : World) (h : w.cell? ⟨bk, 7, none⟩ = some (.slice none 0 0)) : Calls Tryz.prog 64 #[.pointer (some ⟨bk, 0, none⟩)] w fun e w' => e = .returned (.tuple #[]) ∧ w = w' := by
  go_enter Tryz.func64, Tryz.ntmps64
  go_wp2_with fail
  go_loopw [2] (fun i wr => i = .int .i64 0 ∧ wr = w) (fun _ _ => 0)
  case atStart => simp
  case round =>
    obtain ⟨rfl, rfl⟩ := hrel
    go_wp2_with fail
    go_end0
    exact ⟨rfl, rfl⟩
theorem lookGauss_e (bk : Nat) (w : World) (h : w.cell? ⟨bk, 7, none⟩ = some (.slice none 0 0)) : Calls Tryz.prog 80 #[.pointer (some ⟨bk, 0, none⟩)] w fun e w' => e = .returned (.bool true) ∧ w = w' := by
  go_enter Tryz.func80, Tryz.ntmps80
  go_wp2_with fail
  go_loopw [3] (fun i wr => i = .int .i64 0 ∧ wr = w) (fun _ _ => 0)
  case atStart => simp
  case round =>
    obtain ⟨rfl, rfl⟩ := hrel
    go_wp2_with fail
    go_ret
    exact ⟨rfl, rfl⟩
theorem fillRay_e (bk : Nat) (w : World) (h : w.cell? ⟨bk, 8, none⟩ = some (.slice none 0 0)) : Calls Tryz.prog 49 #[.pointer (some ⟨bk, 0, none⟩)] w fun e w' => e = .returned (.tuple #[]) ∧ w = w' := by
  go_enter Tryz.func49, Tryz.ntmps49
  go_wp2_with fail
  go_loopw [2] (fun i wr => i = .int .i64 0 ∧ wr = w) (fun _ _ => 0)
  case atStart => simp
  case round =>
    obtain ⟨rfl, rfl⟩ := hrel
    go_wp2_with fail
    go_end0
    exact ⟨rfl, rfl⟩
theorem growRay_e (bk : Nat) (w : World) (h : w.cell? ⟨bk, 8, none⟩ = some (.slice none 0 0)) : Calls Tryz.prog 65 #[.pointer (some ⟨bk, 0, none⟩)] w fun e w' => e = .returned (.tuple #[]) ∧ w = w' := by
  go_enter Tryz.func65, Tryz.ntmps65
  go_wp2_with fail
  go_loopw [2] (fun i wr => i = .int .i64 0 ∧ wr = w) (fun _ _ => 0)
  case atStart => simp
  case round =>
    obtain ⟨rfl, rfl⟩ := hrel
    go_wp2_with fail
    go_end0
    exact ⟨rfl, rfl⟩
theorem lookRay_e (bk : Nat) (w : World) (h : w.cell? ⟨bk, 8, none⟩ = some (.slice none 0 0)) : Calls Tryz.prog 81 #[.pointer (some ⟨bk, 0, none⟩)] w fun e w' => e = .returned (.bool true) ∧ w = w' := by
  go_enter Tryz.func81, Tryz.ntmps81
  go_wp2_with fail
  go_loopw [3] (fun i wr => i = .int .i64 0 ∧ wr = w) (fun _ _ => 0)
  case atStart => simp
  case round =>
    obtain ⟨rfl, rfl⟩ := hrel
    go_wp2_with fail
    go_ret
    exact ⟨rfl, rfl⟩
theorem fillElement_e (bk : Nat) (w : World) (h : w.cell? ⟨bk, 9, none⟩ = some (.slice none 0 0)) : Calls Tryz.prog 50 #[.pointer (some ⟨bk, 0, none⟩)] w fun e w' => e = .returned (.tuple #[]) ∧ w = w' := by
  go_enter Tryz.func50, Tryz.ntmps50
  go_wp2_with fail
  go_loopw [2] (fun i wr => i = .int .i64 0 ∧ wr = w) (fun _ _ => 0)
  case atStart => simp
  case round =>
    obtain ⟨rfl, rfl⟩ := hrel
    go_wp2_with fail
    go_end0
    exact ⟨rfl, rfl⟩
theorem growElement_e (bk : Nat) (w : World) (h : w.cell? ⟨bk, 9, none⟩ = some (.slice none 0 0)) : Calls Tryz.prog 66 #[.pointer (some ⟨bk, 0, none⟩)] w fun e w' => e = .returned (.tuple #[]) ∧ w = w' := by
  go_enter Tryz.func66, Tryz.ntmps66
  go_wp2_with fail
  go_loopw [2] (fun i wr => i = .int .i64 0 ∧ wr = w) (fun _ _ => 0)
  case atStart => simp
  case round =>
    obtain ⟨rfl, rfl⟩ := hrel
    go_wp2_with fail
    go_end0
    exact ⟨rfl, rfl⟩
theorem lookElement_e (bk : Nat) (w : World) (h : w.cell? ⟨bk, 9, none⟩ = some (.slice none 0 0)) : Calls Tryz.prog 82 #[.pointer (some ⟨bk, 0, none⟩)] w fun e w' => e = .returned (.bool true) ∧ w = w' := by
  go_enter Tryz.func82, Tryz.ntmps82
  go_wp2_with fail
  go_loopw [3] (fun i wr => i = .int .i64 0 ∧ wr = w) (fun _ _ => 0)
  case atStart => simp
  case round =>
    obtain ⟨rfl, rfl⟩ := hrel
    go_wp2_with fail
    go_ret
    exact ⟨rfl, rfl⟩
theorem fillCoat_e (bk : Nat) (w : World) (h : w.cell? ⟨bk, 10, none⟩ = some (.slice none 0 0)) : Calls Tryz.prog 51 #[.pointer (some ⟨bk, 0, none⟩)] w fun e w' => e = .returned (.tuple #[]) ∧ w = w' := by
  go_enter Tryz.func51, Tryz.ntmps51
  go_wp2_with fail
  go_loopw [2] (fun i wr => i = .int .i64 0 ∧ wr = w) (fun _ _ => 0)
  case atStart => simp
  case round =>
    obtain ⟨rfl, rfl⟩ := hrel
    go_wp2_with fail
    go_end0
    exact ⟨rfl, rfl⟩
theorem growCoat_e (bk : Nat) (w : World) (h : w.cell? ⟨bk, 10, none⟩ = some (.slice none 0 0)) : Calls Tryz.prog 67 #[.pointer (some ⟨bk, 0, none⟩)] w fun e w' => e = .returned (.tuple #[]) ∧ w = w' := by
  go_enter Tryz.func67, Tryz.ntmps67
  go_wp2_with fail
  go_loopw [2] (fun i wr => i = .int .i64 0 ∧ wr = w) (fun _ _ => 0)
  case atStart => simp
  case round =>
    obtain ⟨rfl, rfl⟩ := hrel
    go_wp2_with fail
    go_end0
    exact ⟨rfl, rfl⟩
theorem lookCoat_e (bk : Nat) (w : World) (h : w.cell? ⟨bk, 10, none⟩ = some (.slice none 0 0)) : Calls Tryz.prog 83 #[.pointer (some ⟨bk, 0, none⟩)] w fun e w' => e = .returned (.bool true) ∧ w = w' := by
  go_enter Tryz.func83, Tryz.ntmps83
  go_wp2_with fail
  go_loopw [3] (fun i wr => i = .int .i64 0 ∧ wr = w) (fun _ _ => 0)
  case atStart => simp
  case round =>
    obtain ⟨rfl, rfl⟩ := hrel
    go_wp2_with fail
    go_ret
    exact ⟨rfl, rfl⟩
theorem fillDisc_e (bk : Nat) (w : World) (h : w.cell? ⟨bk, 11, none⟩ = some (.slice none 0 0)) : Calls Tryz.prog 52 #[.pointer (some ⟨bk, 0, none⟩)] w fun e w' => e = .returned (.tuple #[]) ∧ w = w' := by
  go_enter Tryz.func52, Tryz.ntmps52
  go_wp2_with fail
  go_loopw [2] (fun i wr => i = .int .i64 0 ∧ wr = w) (fun _ _ => 0)
  case atStart => simp
  case round =>
    obtain ⟨rfl, rfl⟩ := hrel
    go_wp2_with fail
    go_end0
    exact ⟨rfl, rfl⟩
theorem growDisc_e (bk : Nat) (w : World) (h : w.cell? ⟨bk, 11, none⟩ = some (.slice none 0 0)) : Calls Tryz.prog 68 #[.pointer (some ⟨bk, 0, none⟩)] w fun e w' => e = .returned (.tuple #[]) ∧ w = w' := by
  go_enter Tryz.func68, Tryz.ntmps68
  go_wp2_with fail
  go_loopw [2] (fun i wr => i = .int .i64 0 ∧ wr = w) (fun _ _ => 0)
  case atStart => simp
  case round =>
    obtain ⟨rfl, rfl⟩ := hrel
    go_wp2_with fail
    go_end0
    exact ⟨rfl, rfl⟩
theorem lookDisc_e (bk : Nat) (w : World) (h : w.cell? ⟨bk, 11, none⟩ = some (.slice none 0 0)) : Calls Tryz.prog 84 #[.pointer (some ⟨bk, 0, none⟩)] w fun e w' => e = .returned (.bool true) ∧ w = w' := by
  go_enter Tryz.func84, Tryz.ntmps84
  go_wp2_with fail
  go_loopw [3] (fun i wr => i = .int .i64 0 ∧ wr = w) (fun _ _ => 0)
  case atStart => simp
  case round =>
    obtain ⟨rfl, rfl⟩ := hrel
    go_wp2_with fail
    go_ret
    exact ⟨rfl, rfl⟩
theorem fillPart_e (bk : Nat) (w : World) (h : w.cell? ⟨bk, 12, none⟩ = some (.slice none 0 0)) : Calls Tryz.prog 53 #[.pointer (some ⟨bk, 0, none⟩)] w fun e w' => e = .returned (.tuple #[]) ∧ w = w' := by
  go_enter Tryz.func53, Tryz.ntmps53
  go_wp2_with fail
  go_loopw [2] (fun i wr => i = .int .i64 0 ∧ wr = w) (fun _ _ => 0)
  case atStart => simp
  case round =>
    obtain ⟨rfl, rfl⟩ := hrel
    go_wp2_with fail
    go_end0
    exact ⟨rfl, rfl⟩
theorem growPart_e (bk : Nat) (w : World) (h : w.cell? ⟨bk, 12, none⟩ = some (.slice none 0 0)) : Calls Tryz.prog 69 #[.pointer (some ⟨bk, 0, none⟩)] w fun e w' => e = .returned (.tuple #[]) ∧ w = w' := by
  go_enter Tryz.func69, Tryz.ntmps69
  go_wp2_with fail
  go_loopw [2] (fun i wr => i = .int .i64 0 ∧ wr = w) (fun _ _ => 0)
  case atStart => simp
  case round =>
    obtain ⟨rfl, rfl⟩ := hrel
    go_wp2_with fail
    go_end0
    exact ⟨rfl, rfl⟩
theorem lookPart_e (bk : Nat) (w : World) (h : w.cell? ⟨bk, 12, none⟩ = some (.slice none 0 0)) : Calls Tryz.prog 85 #[.pointer (some ⟨bk, 0, none⟩)] w fun e w' => e = .returned (.bool true) ∧ w = w' := by
  go_enter Tryz.func85, Tryz.ntmps85
  go_wp2_with fail
  go_loopw [3] (fun i wr => i = .int .i64 0 ∧ wr = w) (fun _ _ => 0)
  case atStart => simp
  case round =>
    obtain ⟨rfl, rfl⟩ := hrel
    go_wp2_with fail
    go_ret
    exact ⟨rfl, rfl⟩
theorem fillDef_e (bk : Nat) (w : World) (h : w.cell? ⟨bk, 13, none⟩ = some (.slice none 0 0)) : Calls Tryz.prog 54 #[.pointer (some ⟨bk, 0, none⟩)] w fun e w' => e = .returned (.tuple #[]) ∧ w = w' := by
  go_enter Tryz.func54, Tryz.ntmps54
  go_wp2_with fail
  go_loopw [2] (fun i wr => i = .int .i64 0 ∧ wr = w) (fun _ _ => 0)
  case atStart => simp
  case round =>
    obtain ⟨rfl, rfl⟩ := hrel
    go_wp2_with fail
    go_end0
    exact ⟨rfl, rfl⟩
theorem growDef_e (bk : Nat) (w : World) (h : w.cell? ⟨bk, 13, none⟩ = some (.slice none 0 0)) : Calls Tryz.prog 70 #[.pointer (some ⟨bk, 0, none⟩)] w fun e w' => e = .returned (.tuple #[]) ∧ w = w' := by
  go_enter Tryz.func70, Tryz.ntmps70
  go_wp2_with fail
  go_loopw [2] (fun i wr => i = .int .i64 0 ∧ wr = w) (fun _ _ => 0)
  case atStart => simp
  case round =>
    obtain ⟨rfl, rfl⟩ := hrel
    go_wp2_with fail
    go_end0
    exact ⟨rfl, rfl⟩
theorem lookDef_e (bk : Nat) (w : World) (h : w.cell? ⟨bk, 13, none⟩ = some (.slice none 0 0)) : Calls Tryz.prog 86 #[.pointer (some ⟨bk, 0, none⟩)] w fun e w' => e = .returned (.bool true) ∧ w = w' := by
  go_enter Tryz.func86, Tryz.ntmps86
  go_wp2_with fail
  go_loopw [3] (fun i wr => i = .int .i64 0 ∧ wr = w) (fun _ _ => 0)
  case atStart => simp
  case round =>
    obtain ⟨rfl, rfl⟩ := hrel
    go_wp2_with fail
    go_ret
    exact ⟨rfl, rfl⟩
theorem fillItem_e (bk : Nat) (w : World) (h : w.cell? ⟨bk, 14, none⟩ = some (.slice none 0 0)) : Calls Tryz.prog 55 #[.pointer (some ⟨bk, 0, none⟩)] w fun e w' => e = .returned (.tuple #[]) ∧ w = w' := by
  go_enter Tryz.func55, Tryz.ntmps55
  go_wp2_with fail
  go_loopw [2] (fun i wr => i = .int .i64 0 ∧ wr = w) (fun _ _ => 0)
  case atStart => simp
  case round =>
    obtain ⟨rfl, rfl⟩ := hrel
    go_wp2_with fail
    go_end0
    exact ⟨rfl, rfl⟩
theorem growItem_e (bk : Nat) (w : World) (h : w.cell? ⟨bk, 14, none⟩ = some (.slice none 0 0)) : Calls Tryz.prog 71 #[.pointer (some ⟨bk, 0, none⟩)] w fun e w' => e = .returned (.tuple #[]) ∧ w = w' := by
  go_enter Tryz.func71, Tryz.ntmps71
  go_wp2_with fail
  go_loopw [2] (fun i wr => i = .int .i64 0 ∧ wr = w) (fun _ _ => 0)
  case atStart => simp
  case round =>
    obtain ⟨rfl, rfl⟩ := hrel
    go_wp2_with fail
    go_end0
    exact ⟨rfl, rfl⟩
theorem lookItem_e (bk : Nat) (w : World) (h : w.cell? ⟨bk, 14, none⟩ = some (.slice none 0 0)) : Calls Tryz.prog 87 #[.pointer (some ⟨bk, 0, none⟩)] w fun e w' => e = .returned (.bool true) ∧ w = w' := by
  go_enter Tryz.func87, Tryz.ntmps87
  go_wp2_with fail
  go_loopw [3] (fun i wr => i = .int .i64 0 ∧ wr = w) (fun _ _ => 0)
  case atStart => simp
  case round =>
    obtain ⟨rfl, rfl⟩ := hrel
    go_wp2_with fail
    go_ret
    exact ⟨rfl, rfl⟩
theorem fillAct_e (bk : Nat) (w : World) (h : w.cell? ⟨bk, 15, none⟩ = some (.slice none 0 0)) : Calls Tryz.prog 56 #[.pointer (some ⟨bk, 0, none⟩)] w fun e w' => e = .returned (.tuple #[]) ∧ w = w' := by
  go_enter Tryz.func56, Tryz.ntmps56
  go_wp2_with fail
  go_loopw [2] (fun i wr => i = .int .i64 0 ∧ wr = w) (fun _ _ => 0)
  case atStart => simp
  case round =>
    obtain ⟨rfl, rfl⟩ := hrel
    go_wp2_with fail
    go_end0
    exact ⟨rfl, rfl⟩
theorem growAct_e (bk : Nat) (w : World) (h : w.cell? ⟨bk, 15, none⟩ = some (.slice none 0 0)) : Calls Tryz.prog 72 #[.pointer (some ⟨bk, 0, none⟩)] w fun e w' => e = .returned (.tuple #[]) ∧ w = w' := by
  go_enter Tryz.func72, Tryz.ntmps72
  go_wp2_with fail
  go_loopw [2] (fun i wr => i = .int .i64 0 ∧ wr = w) (fun _ _ => 0)
  case atStart => simp
  case round =>
    obtain ⟨rfl, rfl⟩ := hrel
    go_wp2_with fail
    go_end0
    exact ⟨rfl, rfl⟩
theorem lookAct_e (bk : Nat) (w : World) (h : w.cell? ⟨bk, 15, none⟩ = some (.slice none 0 0)) : Calls Tryz.prog 88 #[.pointer (some ⟨bk, 0, none⟩)] w fun e w' => e = .returned (.bool true) ∧ w = w' := by
  go_enter Tryz.func88, Tryz.ntmps88
  go_wp2_with fail
  go_loopw [3] (fun i wr => i = .int .i64 0 ∧ wr = w) (fun _ _ => 0)
  case atStart => simp
  case round =>
    obtain ⟨rfl, rfl⟩ := hrel
    go_wp2_with fail
    go_ret
    exact ⟨rfl, rfl⟩
theorem fillReply_e (bk : Nat) (w : World) (h : w.cell? ⟨bk, 16, none⟩ = some (.slice none 0 0)) : Calls Tryz.prog 57 #[.pointer (some ⟨bk, 0, none⟩)] w fun e w' => e = .returned (.tuple #[]) ∧ w = w' := by
  go_enter Tryz.func57, Tryz.ntmps57
  go_wp2_with fail
  go_loopw [2] (fun i wr => i = .int .i64 0 ∧ wr = w) (fun _ _ => 0)
  case atStart => simp
  case round =>
    obtain ⟨rfl, rfl⟩ := hrel
    go_wp2_with fail
    go_end0
    exact ⟨rfl, rfl⟩
theorem growReply_e (bk : Nat) (w : World) (h : w.cell? ⟨bk, 16, none⟩ = some (.slice none 0 0)) : Calls Tryz.prog 73 #[.pointer (some ⟨bk, 0, none⟩)] w fun e w' => e = .returned (.tuple #[]) ∧ w = w' := by
  go_enter Tryz.func73, Tryz.ntmps73
  go_wp2_with fail
  go_loopw [2] (fun i wr => i = .int .i64 0 ∧ wr = w) (fun _ _ => 0)
  case atStart => simp
  case round =>
    obtain ⟨rfl, rfl⟩ := hrel
    go_wp2_with fail
    go_end0
    exact ⟨rfl, rfl⟩
theorem lookReply_e (bk : Nat) (w : World) (h : w.cell? ⟨bk, 16, none⟩ = some (.slice none 0 0)) : Calls Tryz.prog 89 #[.pointer (some ⟨bk, 0, none⟩)] w fun e w' => e = .returned (.bool true) ∧ w = w' := by
  go_enter Tryz.func89, Tryz.ntmps89
  go_wp2_with fail
  go_loopw [3] (fun i wr => i = .int .i64 0 ∧ wr = w) (fun _ _ => 0)
  case atStart => simp
  case round =>
    obtain ⟨rfl, rfl⟩ := hrel
    go_wp2_with fail
    go_ret
    exact ⟨rfl, rfl⟩
end Go.Proofs.YtplhndmncjoghaaGreatDoor
namespace Go.Proofs.YtplhndmncjoghaaGreatDoor
set_option maxRecDepth 100000
open Go Go.RowKit Go.Proofs
/-- A mark's float. -/
def fm (n : Int) : Nat := floatOfInt .f64 (-1000 - n)
def mkC (n : Int) : Value := .complex .f64 (fm n) 4619567317775286272
theorem markComplex_c (n : Int) (w : World) (h0 : 0 ≤ n) (h1 : n ≤ 1000000) : Calls Tryz.prog 126 #[.int .i64 n] w fun e w' => e = .returned (mkC n) ∧ w = w' := by
  go_enter Tryz.func126, Tryz.ntmps126
  go_wp2_with fail
  go_ret
  exact ⟨rfl, rfl⟩
theorem isComplex_c (n : Int) (w : World) (h0 : 0 ≤ n) (h1 : n ≤ 1000000) (hm : FloatKind.f64.format.order (fm n) (fm n) = some .eq) : Calls Tryz.prog 142 #[mkC n, .int .i64 n] w fun e w' => e = .returned (.bool true) ∧ w = w' := by
  unfold mkC
  obtain ⟨m, hm'⟩ : ∃ m, m = fm n := ⟨_, rfl⟩
  have h7 : FloatKind.f64.format.order 4619567317775286272 4619567317775286272 = some Ordering.eq := by kernel_rfl
  rw [← hm'] at hm ⊢
  unfold fm at hm'
  go_enter Tryz.func142, Tryz.ntmps142
  go_wp2_with fail
  rw [← hm', hm]
  go_ret
  exact ⟨rfl, rfl⟩
/-- A list that a Book holds: the list, its number, how long it is. -/
structure Ent where
  l : Value
  n : Nat
  len : Nat

/-- A world whose blocks are as they were but for some. -/
structure Chg (w w' : World) (S : Nat → Prop) : Prop where
  os : w'.os = w.os
  tape : w'.tape = w.tape
  output : w'.output = w.output
  size : w.heap.size ≤ w'.heap.size
  block : ∀ k, k < w.heap.size → ¬ S k → w'.heap[k]? = w.heap[k]?
theorem Chg.refl (w : World) (S : Nat → Prop) : Chg w w S := ⟨rfl, rfl, rfl, Nat.le_refl _, fun _ _ _ => rfl⟩
theorem Chg.trans {a b c : World} {S : Nat → Prop} (h : Chg a b S) (k : Chg b c S) : Chg a c S :=
  ⟨k.os.trans h.os, k.tape.trans h.tape, k.output.trans h.output, Nat.le_trans h.size k.size, fun i hi hs => (k.block i (Nat.lt_of_lt_of_le hi h.size) hs).trans (h.block i hi hs)⟩
theorem Chg.mono {a b : World} {S T : Nat → Prop} (h : Chg a b S) (hs : ∀ k, k < a.heap.size → S k → T k) : Chg a b T :=
  ⟨h.os, h.tape, h.output, h.size, fun i hi hn => h.block i hi fun x => hn (hs i hi x)⟩
theorem Chg.grown {a b : World} {row : Option Nat} (h : a.grownBy b row) : Chg a b (fun k => some k = row) :=
  ⟨h.os, h.tape, h.output, h.size, h.block⟩
theorem Chg.al (a : World) (o : Obj) (S : Nat → Prop) : Chg a (a.alloc o) S := (Chg.grown (World.grownBy_alloc a o none)).mono fun k _ h => by cases h
theorem Chg.cell {w w' : World} {S : Nat → Prop} (h : Chg w w' S) {a : Addr} {v : Value} (hc : w.cell? a = some v) (hs : ¬ S a.block) : w'.cell? a = some v :=
  (World.cell?_of_block (h.block a.block (World.block_lt_of_cell? w a hc) hs)).trans hc
theorem Chg.row {w w' : World} {S : Nat → Prop} (h : Chg w w' S) {base E sz n : Nat} {v : Value} {xs : List Value} (ho : w.ownsRow base E sz v n xs) (hs : ∀ g, v.ownBlock = some g → ¬ S g) : w'.ownsRow base E sz v n xs := by
  refine ⟨ho.1, ?_⟩
  rcases ho.2 with hn | ⟨g, cap, cur, rfl, hb, hgg, rest⟩
  · exact .inl hn
  · refine .inr ⟨g, cap, cur, rfl, hb, ?_, rest⟩
    rw [h.block g (Array.getElem?_eq_some_iff.1 hgg).1 (hs g rfl)]
    exact hgg
theorem Chg.ext {w w' : World} {S : Nat → Prop} (h : Chg w w' S) (b : World) (hb : Ext b w) (hs : ∀ k, k < b.heap.size → ¬ S k) : Ext b w' :=
  ⟨h.os.trans hb.os, h.tape.trans hb.tape, h.output.trans hb.output, Nat.le_trans hb.size h.size, fun k hk => (h.block k (Nat.lt_of_lt_of_le hk hb.size) (hs k hk)).trans (hb.block k hk)⟩
theorem Chg.of_ext {w w' : World} (h : Ext w w') (S : Nat → Prop) : Chg w w' S := ⟨h.os, h.tape, h.output, h.size, fun k hk _ => h.block k hk⟩
/-- The blocks of the lists. -/
def Blocks (es : List Ent) (g : Nat) : Prop := ∃ i, ∃ h : i < es.length, es[i].l.ownBlock = some g
def Distinct (es : List Ent) : Prop := ∀ i j (hi : i < es.length) (hj : j < es.length), i ≠ j → es[i].l.ownBlock = none ∨ es[i].l.ownBlock ≠ es[j].l.ownBlock
/-- What the Book's own list of a kind holds. -/
def Holds (w : World) (hb : Nat) (es : List Ent) : Prop := ∀ i (h : i < es.length), w.cell? ⟨hb, i * 3, none⟩ = some es[i].l ∧ (∃ a n c, w.cell? ⟨hb, i * 3 + 1, none⟩ = some (.slice a n c)) ∧ w.cell? ⟨hb, i * 3 + 2, none⟩ = some (.int .i64 es[i].n) ∧ w.frozen? ⟨hb, i * 3 + 1, none⟩ = false
theorem Holds.chg {w w' : World} {hb : Nat} {es : List Ent} {S : Nat → Prop} (h : Holds w hb es) (c : Chg w w' S) (hs : ¬ S hb) : Holds w' hb es :=
  fun i hi => by
    obtain ⟨h1, ⟨a, n, k, h2⟩, h3, h4⟩ := h i hi
    exact ⟨c.cell h1 hs, ⟨a, n, k, c.cell h2 hs⟩, c.cell h3 hs, (World.frozen?_of_block (c.block hb (World.block_lt_of_cell? w _ h1) hs)).trans h4⟩
/-- All lists are somebody's own. -/
def Lists (base E : Nat) (w : World) (es : List Ent) : Prop := ∀ i (h : i < es.length), ∃ xs, w.ownsRow base E 1 es[i].l es[i].len xs
/-- The first lists are marked. -/
def Marked (base E : Nat) (mk : Int → Value) (w : World) (es : List Ent) (k : Nat) : Prop := ∀ i (h : i < es.length), i < k → w.ownsRow base E 1 es[i].l es[i].len (List.replicate es[i].len (mk es[i].n))
/-- What is kept while filling. -/
def FillI (base E : Nat) (mk : Int → Value) (w wr : World) (es : List Ent) (k : Nat) : Prop := Chg w wr (Blocks es) ∧ Marked base E mk wr es k ∧ Lists base E wr es
theorem fill_start {base E : Nat} {mk : Int → Value} {w : World} {es : List Ent} (h : Lists base E w es) : FillI base E mk w w es 0 :=
  ⟨Chg.refl _ _, fun _ _ h => absurd h (Nat.not_lt_zero _), h⟩
theorem fill_step {base E : Nat} {mk : Int → Value} {w wr W : World} {es : List Ent} {k : Nat} (h : FillI base E mk w wr es k) (hk : k < es.length) (hd : Distinct es) {o : Obj} (hg : (wr.alloc o).grownBy W es[k].l.ownBlock)
    (ho : W.ownsRow base E 1 es[k].l es[k].len (List.replicate es[k].len (mk es[k].n))) : FillI base E mk w W es (k + 1) := by
  obtain ⟨h1, h2, h3⟩ := h
  have hc : Chg wr W (fun g => some g = es[k].l.ownBlock) := (Chg.al wr o _).trans (Chg.grown hg)
  have hne : ∀ i (hi : i < es.length), i ≠ k → ∀ g, es[i].l.ownBlock = some g → ¬ some g = es[k].l.ownBlock := by
    intro i hi hik g hg1 hg2
    rcases hd i k hi hk hik with h | h
    · rw [h] at hg1; cases hg1
    · exact h (hg1.trans hg2)
  refine ⟨h1.trans (hc.mono fun g _ hg => ⟨k, hk, hg.symm⟩), fun i hi hlt => ?_, fun i hi => ?_⟩
  · by_cases e : i = k
    · subst e; exact ho
    · exact hc.row (h2 i hi (by omega)) (hne i hi e)
  · by_cases e : i = k
    · subst e; exact ⟨_, ho⟩
    · obtain ⟨xs, hx⟩ := h3 i hi
      exact ⟨xs, hc.row hx (hne i hi e)⟩
/-- A list of a Book's own, opened. -/
theorem owns_shape {w : World} {base E n : Nat} {v : Value} {xs : List Value} (h : w.ownsRow base E 1 v n xs) : ∃ a c, v = .slice a n c ∧ n ≤ c ∧ xs.length = n ∧ (0 < n → ∃ g, a = some ⟨g, 0, none⟩) := by
  obtain ⟨a, c, h1, h2, _⟩ := row_of_owns h
  refine ⟨a, c, h1, h2, by simpa using h.1, fun hn => ?_⟩
  rcases h.2 with ⟨_, h0⟩ | ⟨g, cap, cur, h3, _⟩
  · omega
  · rw [h1] at h3
    simp only [Value.slice.injEq] at h3
    exact ⟨g, h3.1⟩
theorem grownBy_join {a b c d : World} {row : Option Nat} (h : a.grownBy b row) (e : Ext b c) (k : c.grownBy d row) : a.grownBy d row :=
  ⟨k.os.trans (e.os.trans h.os), k.tape.trans (e.tape.trans h.tape), k.output.trans (e.output.trans h.output), Nat.le_trans h.size (Nat.le_trans e.size k.size),
   fun i hi hn => (k.block i (Nat.lt_of_lt_of_le hi (Nat.le_trans h.size e.size)) hn).trans ((e.block i (Nat.lt_of_lt_of_le hi h.size)).trans (h.block i hi hn))⟩
/-- The first places marked. -/
def part (m : Value) (xs : List Value) (k : Nat) : List Value := List.replicate k m ++ xs.drop k
theorem part_set (m : Value) (xs : List Value) (k : Nat) (h : k < xs.length) : (part m xs k).set k m = part m xs (k + 1) := by
  unfold part
  rw [List.set_append_right _ _ (by simp), List.length_replicate, Nat.sub_self, List.drop_eq_getElem_cons h, List.set_cons_zero]
  simp [List.replicate_succ']
theorem part_end (m : Value) (xs : List Value) : part m xs xs.length = List.replicate xs.length m := by simp [part]
theorem part_zero (m : Value) (xs : List Value) : part m xs 0 = xs := by simp [part]
theorem part_length (m : Value) (xs : List Value) (k : Nat) (h : k ≤ xs.length) : (part m xs k).length = xs.length := by simp [part]; omega
theorem wpList_append_ran {P : Program} {ops : Array Oper} {rest : List Oper} {o : Oper} {a : Act} {Q : Exit → Act → World → Prop} {w w' : World} {v' vs vx : Value} (hgd : o.guard = none) (s x : Operand) (t : TypeId)
    (ho : o.op = .call { callee := .builtin .append, args := #[s, x], argTypes := #[t, t] }) (hs : a.eval s = vs) (hx : a.eval x = vx)
    (hr : (Builtin.append_ #[t, t] o.type #[vs, vx]).run P w = .ok v' w') (h : wpList P ops Q rest (a.put o.dst v') w') : wpList P ops Q (o :: rest) a w := by
  refine wpList_plain hgd fun K hK => ?_
  unfold Oper.wp execOp
  simp only [ho, resolve, invoke, builtin, Sem.run_bind, Sem.run_pure, Result.andThen_ok, List.map_toArray, List.map_cons, List.map_nil, hs, hx, hr]
  exact hK _ _ h
theorem givesV_append_ran {P : Program} {o : Oper} {a : Act} {S : World → Value → Prop} {w w' : World} {v' vs vx : Value} (s x : Operand) (t : TypeId)
    (ho : o.op = .call { callee := .builtin .append, args := #[s, x], argTypes := #[t, t] }) (hs : a.eval s = vs) (hx : a.eval x = vx)
    (hr : (Builtin.append_ #[t, t] o.type #[vs, vx]).run P w = .ok v' w') (h : S w' v') : givesV P S ((execOp a.eval o).run P w) := by
  unfold execOp
  simp only [ho, resolve, invoke, builtin, Sem.run_bind, Sem.run_pure, Result.andThen_ok, List.map_toArray, List.map_cons, List.map_nil, hs, hx, hr]
  exact h
/-- One more is put behind a list: where it then lies. -/
theorem append_one {P : Program} (w : World) (base : Nat) (t ty e : TypeId) (i : TypeInfo) (z : Value) (size bytes : Nat) (ht : P.underlying t = some (.slice e)) (hi : P.info? e = some i) (hz : i.zero = some z)
    (hsize : i.size = size) (hby : i.bytes = bytes) (hzs : z.cells.size = size) (hsz : 0 < size)
    (v : Value) (n : Nat) (xs : List Value) (hown : w.ownsRow base e size v n xs)
    (a : Addr) (m c : Nat) (news : List Value) (hl : news.length = m * size) (hnews : ∀ j u, news[j]? = some u → w.cell? (a.add j) = some u) (h1 : ∀ u ∈ news, u.oneCell' = true)
    (h63 : n + m ≤ maxLen) (hbytes : (n + m) * bytes ≤ 140737488355328) (hbase : base ≤ w.heap.size) (hm : 0 < m) :
    ∃ v' w', (Builtin.append_ #[t, t] ty #[v, .slice (some a) m c]).run P w = .ok v' w' ∧ w'.ownsRow base e size v' (n + m) (xs ++ news) ∧
      ((∃ g cap, v = .slice (some ⟨g, 0, none⟩) n cap ∧ v' = .slice (some ⟨g, 0, none⟩) (n + m) cap ∧ w.grownBy w' (some g)) ∨ (v'.ownBlock = some w.heap.size ∧ w.grownBy w' none)) := by
  subst hsize
  subst hby
  have hsmall : n + m ≤ 9223372036854775807 := by simp only [maxLen] at h63; omega
  have hlen : (xs ++ news).length = (n + m) * i.size := by rw [List.length_append, hown.1, hl, Nat.add_mul]
  have grown : ∀ (old : Nat), old < n + m →
      (w.drew.alloc (.cells (xs.toArray ++ news.toArray ++ Builtin.zeroCells z.cells (grownCap w (n + m) old e - (n + m))) e)).ownsRow base e i.size
        (.slice (some ⟨w.heap.size, 0, none⟩) (n + m) (grownCap w (n + m) old e)) (n + m) (xs ++ news) ∧
      w.grownBy (w.drew.alloc (.cells (xs.toArray ++ news.toArray ++ Builtin.zeroCells z.cells (grownCap w (n + m) old e - (n + m))) e)) none := by
    intro old ho
    have hge := grownCap_ge w (n + m) old e
    have hcm : grownCap w (n + m) old e ≤ maxLen := grownCap_le_maxLen w (n + m) old e h63
    refine ⟨⟨hlen, .inr ⟨w.heap.size, _, _, rfl, hbase, heap_alloc_new w.drew _, hge, hcm, ?_, ?_⟩⟩, ⟨rfl, rfl, rfl, by simp, fun k hk _ => Go.heap_alloc_old w.drew _ hk⟩⟩
    · simp only [Array.size_append, List.size_toArray, size_zeroCells, hzs, hown.1, hl, ← Nat.add_mul]
      congr 1
      omega
    · simp only [Array.toList_append, List.append_assoc]
      rw [← List.append_assoc, ← hlen]
      exact List.take_left
  rcases hown.2 with ⟨rfl, rfl⟩ | ⟨g, cap, cur, rfl, hbg, hg, hnc, hcm, hcs, htake⟩
  · have hx : xs = [] := List.eq_nil_of_length_eq_zero (by simpa using hown.1)
    subst hx
    have hr := run_append_nil (P := P) w t ty e i z ht hi hz a m c news hl hnews (by omega) (by omega) (by have hb := hbytes; simp only [Nat.zero_add] at hb; omega)
    have hgr := grown 0 (by omega)
    simp only [Nat.zero_add, List.nil_append, Array.empty_append] at hgr ⊢
    exact ⟨_, _, hr, hgr.1, .inr ⟨rfl, hgr.2⟩⟩
  · by_cases hroom : n + m ≤ cap
    · obtain ⟨w', r1, r2, r3⟩ := run_append_fits w base t ty e i i.size ht hi rfl g n cap xs hown a m c news hl hnews h1 hroom
      exact ⟨_, w', r1, r2, .inl ⟨g, cap, rfl, rfl, r3⟩⟩
    · have holds : ∀ j u, xs[j]? = some u → w.cell? ((⟨g, 0, none⟩ : Addr).add j) = some u := hown.cells (g := g) rfl
      have hr := run_append_grow (P := P) w t ty e i z ht hi hz ⟨g, 0, none⟩ n cap xs hown.1 holds a m c news hl hnews (by omega) (by omega) (growslice_fits (by omega) hbytes)
      have hgr := grown cap (by omega)
      exact ⟨_, _, hr, hgr.1, .inr ⟨rfl, hgr.2⟩⟩
/-- What is kept while more are put behind one list. -/
def GrowR (base E : Nat) (m : Value) (W1 W2 : World) (l : Value) (len : Nat) (v : Value) (q : Nat) : Prop :=
  W1.grownBy W2 l.ownBlock ∧ W2.ownsRow base E 1 v (len + q) (List.replicate (len + q) m) ∧ W2.ownsRow base E 1 l len (List.replicate len m) ∧
    ((∃ g cap, l = .slice (some ⟨g, 0, none⟩) len cap ∧ v = .slice (some ⟨g, 0, none⟩) (len + q) cap) ∨ ∀ b, v.ownBlock = some b → W1.heap.size ≤ b)
theorem growR_start {base E : Nat} {m : Value} {W1 : World} {l : Value} {len : Nat} (h : W1.ownsRow base E 1 l len (List.replicate len m)) : GrowR base E m W1 W1 l len l 0 := by
  refine ⟨World.grownBy.refl _ _, h, h, ?_⟩
  rcases h.2 with ⟨rfl, rfl⟩ | ⟨g, cap, cur, rfl, _⟩
  · exact .inr fun b hb => by cases hb
  · exact .inl ⟨g, cap, rfl, rfl⟩
theorem growR_step {P : Program} {base : Nat} {m : Value} {W1 W2 : World} {l : Value} {len : Nat} {v : Value} {q : Nat} {t ty E : TypeId} {i : TypeInfo} {z : Value} {bytes : Nat} (ht : P.underlying t = some (.slice E)) (hi : P.info? E = some i) (hz : i.zero = some z)
    (hsize : i.size = 1) (hby : i.bytes = bytes) (hzs : z.cells.size = 1) (hm : m.oneCell' = true) (h : GrowR base E m W1 W2 l len v q) (hl : ∀ g, l.ownBlock = some g → g < W1.heap.size) (hb : base ≤ W1.heap.size)
    (hlen : len + q + 1 ≤ 1073741824) (hbytes : bytes ≤ 65536) :
    ∃ v' w', (Builtin.append_ #[t, t] ty #[v, .slice (some ⟨W2.heap.size, 0, none⟩) 1 1]).run P (W2.alloc (.cells #[m] E)) = .ok v' w' ∧ GrowR base E m W1 w' l len v' (q + 1) := by
  obtain ⟨h1, h2, h3, h4⟩ := h
  have hal : W2.grownBy (W2.alloc (.cells #[m] E)) none := World.grownBy_alloc _ _ _
  have hx2 : (W2.alloc (.cells #[m] E)).ownsRow base E 1 v (len + q) (List.replicate (len + q) m) := h2.alloc _
  have hx3 : (W2.alloc (.cells #[m] E)).ownsRow base E 1 l len (List.replicate len m) := h3.alloc _
  have hE : Ext W2 (W2.alloc (.cells #[m] E)) := (Ext.refl _).al _
  have hs1 := h1.size
  obtain ⟨v', w', r1, r2, r3⟩ := append_one (P := P) (W2.alloc (.cells #[m] E)) base t ty E i z 1 bytes ht hi hz hsize hby hzs (by omega) v (len + q) _ hx2 ⟨W2.heap.size, 0, none⟩ 1 1 [m] rfl
    (by
      intro j u hu
      have : j = 0 ∧ u = m := by
        cases j with
        | zero => simp at hu; exact ⟨rfl, hu.symm⟩
        | succ j => simp at hu
      obtain ⟨rfl, rfl⟩ := this
      go_simp)
    (by simpa using hm) (by unfold maxLen; omega) (by
      have : (len + q + 1) * bytes ≤ 1073741824 * 65536 := Nat.mul_le_mul (by omega) hbytes
      omega) (by simp; omega) (by omega)
  have hrep : List.replicate (len + q) m ++ [m] = List.replicate (len + (q + 1)) m := by rw [← List.replicate_succ']; rfl
  rw [hrep] at r2
  refine ⟨v', w', r1, ?_⟩
  rcases r3 with ⟨g', cap', rfl, rfl, r4⟩ | ⟨r4, r5⟩
  · rcases h4 with ⟨g, cap, rfl, he⟩ | h4
    · simp only [Value.slice.injEq, Option.some.injEq, Addr.mk.injEq, and_true, true_and] at he
      obtain ⟨rfl, rfl⟩ := he
      refine ⟨grownBy_join h1 hE r4, r2, ?_, .inl ⟨g', cap', rfl, rfl⟩⟩
      refine ⟨by simp, .inr ?_⟩
      rcases r2.2 with ⟨x, _⟩ | ⟨g, cap, cur, x, b1, b2, b3, b4, b5, b6⟩
      · cases x
      · simp only [Value.slice.injEq, Option.some.injEq, Addr.mk.injEq, and_true, true_and] at x
        obtain ⟨rfl, rfl⟩ := x
        refine ⟨g', cap', cur, rfl, b1, b2, by omega, b4, b5, ?_⟩
        rw [Nat.mul_one] at b6 ⊢
        have := congrArg (List.take len) b6
        rw [List.take_take, Nat.min_eq_left (by omega)] at this
        rw [this, List.take_replicate, Nat.min_eq_left (by omega)]
    · have hg := h4 g' rfl
      refine ⟨?_, r2, hx3.kept r4 ?_, .inr fun b hb => ?_⟩
      · exact ⟨r4.os.trans (hE.os.trans h1.os), r4.tape.trans (hE.tape.trans h1.tape), r4.output.trans (hE.output.trans h1.output), Nat.le_trans h1.size (Nat.le_trans hE.size r4.size),
          fun k hk hn => (r4.block k (by simp; omega) (by simp; omega)).trans ((hal.block k (by omega) (by simp)).trans (h1.block k hk hn))⟩
      · cases hlb : l.ownBlock with
        | none => exact .inl rfl
        | some b => exact .inr (by have := hl b hlb; simp; omega)
      · have : g' = b := by simpa [Value.ownBlock] using hb
        omega
  · have hsz : (W2.alloc (.cells #[m] E)).heap.size = W2.heap.size + 1 := by simp
    refine ⟨?_, r2, hx3.kept r5 ?_, .inr fun b hb => ?_⟩
    · exact ⟨r5.os.trans (hE.os.trans h1.os), r5.tape.trans (hE.tape.trans h1.tape), r5.output.trans (hE.output.trans h1.output), Nat.le_trans h1.size (Nat.le_trans hE.size r5.size),
        fun k hk hn => (r5.block k (by omega) (by simp)).trans ((hal.block k (by omega) (by simp)).trans (h1.block k hk hn))⟩
    · cases l.ownBlock <;> simp
    · rw [r4] at hb
      have : (W2.alloc (.cells #[m] E)).heap.size = b := by simpa using hb
      omega
/-- What is kept while the lists grow. -/
def GrowI (base E : Nat) (mk : Int → Value) (w wr : World) (hb : Nat) (es : List Ent) (k : Nat) : Prop :=
  Chg w wr (fun g => Blocks es g ∨ g = hb) ∧ Marked base E mk wr es es.length ∧ Holds wr hb es ∧
    ∀ i (h : i < es.length), i < k → ∃ v, wr.cell? ⟨hb, i * 3 + 1, none⟩ = some v ∧ wr.ownsRow base E 1 v (es[i].len + 70) (List.replicate (es[i].len + 70) (mk es[i].n)) ∧ ∀ b, v.ownBlock = some b → es[i].l.ownBlock = some b ∨ w.heap.size ≤ b
/-- What looking asks. -/
def LookI (base E : Nat) (mk : Int → Value) (w wr : World) (hb : Nat) (es : List Ent) (k : Nat) : Prop :=
  True ∧ Marked base E mk wr es es.length ∧ Holds wr hb es ∧
    ∀ i (h : i < es.length), i < k → ∃ v, wr.cell? ⟨hb, i * 3 + 1, none⟩ = some v ∧ wr.ownsRow base E 1 v (es[i].len + 70) (List.replicate (es[i].len + 70) (mk es[i].n)) ∧ ∀ b, v.ownBlock = some b → es[i].l.ownBlock = some b ∨ w.heap.size ≤ b
theorem GrowI.look {base E : Nat} {mk : Int → Value} {w wr : World} {hb : Nat} {es : List Ent} {k : Nat} (h : GrowI base E mk w wr hb es k) : LookI base E mk w wr hb es k := ⟨trivial, h.2⟩
theorem LookI.chg {base E : Nat} {mk : Int → Value} {w wr w' : World} {hb : Nat} {es : List Ent} {k : Nat} {S : Nat → Prop} (h : LookI base E mk w wr hb es k) (c : Chg wr w' S) (hs : ∀ g, S g → g < w.heap.size ∧ g ≠ hb ∧ ¬ Blocks es g) : LookI base E mk w w' hb es k := by
  obtain ⟨_, h1, h2, h3⟩ := h
  refine ⟨trivial, fun i hi hik => c.row (h1 i hi hik) fun g hg hS => (hs g hS).2.2 ⟨i, hi, hg⟩, h2.chg c fun hS => (hs _ hS).2.1 rfl, fun i hi hik => ?_⟩
  obtain ⟨v, v1, v2, v3⟩ := h3 i hi hik
  refine ⟨v, c.cell v1 fun hS => (hs _ hS).2.1 rfl, c.row v2 fun g hg hS => ?_, v3⟩
  rcases v3 g hg with h | h
  · exact (hs g hS).2.2 ⟨i, hi, h⟩
  · have := (hs g hS).1
    omega
theorem Marked.chg {base E : Nat} {mk : Int → Value} {w w' : World} {es : List Ent} {k : Nat} {S : Nat → Prop} (h : Marked base E mk w es k) (c : Chg w w' S) (hs : ∀ g, S g → ¬ Blocks es g) : Marked base E mk w' es k :=
  fun i hi hik => c.row (h i hi hik) fun g hg hS => hs g hS ⟨i, hi, hg⟩
theorem Lists.chg {base E : Nat} {w w' : World} {es : List Ent} {S : Nat → Prop} (h : Lists base E w es) (c : Chg w w' S) (hs : ∀ g, S g → ¬ Blocks es g) : Lists base E w' es := fun i hi => by
  obtain ⟨xs, hx⟩ := h i hi
  exact ⟨xs, c.row hx fun g hg hS => hs g hS ⟨i, hi, hg⟩⟩
theorem growI_start {base E : Nat} {mk : Int → Value} {w : World} {hb : Nat} {es : List Ent} (h1 : Marked base E mk w es es.length) (h2 : Holds w hb es) : GrowI base E mk w w hb es 0 :=
  ⟨Chg.refl _ _, h1, h2, fun _ _ h => absurd h (Nat.not_lt_zero _)⟩
theorem growI_step {base E : Nat} {mk : Int → Value} {w wr W2 : World} {hb : Nat} {es : List Ent} {k : Nat} {o : Obj} {v : Value} (h : GrowI base E mk w wr hb es k) (hk : k < es.length) (hd : Distinct es)
    (hhb : hb < w.heap.size) (hnb : ¬ Blocks es hb) (hB : ∀ g, Blocks es g → g < w.heap.size) (hg : GrowR base E (mk es[k].n) (wr.alloc o) W2 es[k].l es[k].len v 70) :
    GrowI base E mk w (W2.setCell ⟨hb, k * 3 + 1, none⟩ v) hb es (k + 1) := by
  obtain ⟨h1, h2, h3, h4⟩ := h
  obtain ⟨g1, g2, g3, g4⟩ := hg
  have hc : Chg wr W2 (fun g => some g = es[k].l.ownBlock) := (Chg.al wr o _).trans (Chg.grown g1)
  have hc3 : Chg W2 (W2.setCell ⟨hb, k * 3 + 1, none⟩ v) (fun g => g = hb) :=
    ⟨rfl, rfl, rfl, by simp, fun j _ hj => heap_setCell_other W2 ⟨hb, k * 3 + 1, none⟩ j v (fun e => hj e)⟩
  have hs := h1.size
  have hs2 := hc.size
  have hne : ∀ i (hi : i < es.length), i ≠ k → ∀ g, es[i].l.ownBlock = some g → ¬ some g = es[k].l.ownBlock := by
    intro i hi hik g hg1 hg2
    rcases hd i k hi hk hik with h | h
    · rw [h] at hg1; cases hg1
    · exact h (hg1.trans hg2)
  have hkb : ¬ (some hb = es[k].l.ownBlock) := fun e => hnb ⟨k, hk, e.symm⟩
  have hH2 := h3.chg hc hkb
  have hoff : ∀ i r, i < es.length → r < 3 → (r ≠ 1 ∨ i ≠ k) → ∀ u, W2.cell? ⟨hb, i * 3 + r, none⟩ = some u → (W2.setCell ⟨hb, k * 3 + 1, none⟩ v).cell? ⟨hb, i * 3 + r, none⟩ = some u := by
    intro i r _ hr hir u hu
    rw [World.cell?_setCell_other]
    · exact hu
    · intro e
      have : k * 3 + 1 = i * 3 + r := congrArg Addr.off e
      omega
  have hvk : (W2.setCell ⟨hb, k * 3 + 1, none⟩ v).cell? ⟨hb, k * 3 + 1, none⟩ = some v := by
    obtain ⟨_, ⟨a, n, c, hx⟩, _⟩ := hH2 k hk
    exact World.cell?_setCell_same (h := hx) ..
  have hvb : ∀ b, v.ownBlock = some b → es[k].l.ownBlock = some b ∨ w.heap.size ≤ b := by
    intro b hb'
    rcases g4 with ⟨g, cap, hl, rfl⟩ | g4
    · left
      rw [hl]
      exact hb'
    · right
      have := g4 b hb'
      simp at this
      omega
  have hvs : ∃ a n c, v = .slice a n c := by
    obtain ⟨a, c, e, _⟩ := row_of_owns g2
    exact ⟨a, _, c, e⟩
  refine ⟨((h1.trans (hc.mono fun g _ hg => .inl ⟨k, hk, hg.symm⟩)).trans (hc3.mono fun g _ hg => .inr hg)), fun i hi _ => ?_, fun i hi => ?_, fun i hi hik => ?_⟩
  · refine hc3.row ?_ (fun g hg e => hnb ⟨i, hi, by rw [← e]; exact hg⟩)
    by_cases e : i = k
    · subst e; exact g3
    · exact hc.row (h2 i hi hi) (hne i hi e)
  · obtain ⟨x1, ⟨a, n, c, x2⟩, x3, x4⟩ := hH2 i hi
    refine ⟨hoff i 0 hi (by omega) (by omega) _ x1, ?_, hoff i 2 hi (by omega) (by omega) _ x3, by rw [World.frozen?_setCell]; exact x4⟩
    by_cases e : i = k
    · subst e
      obtain ⟨a, n, c, rfl⟩ := hvs
      exact ⟨a, n, c, hvk⟩
    · exact ⟨a, n, c, hoff i 1 hi (by omega) (by omega) _ x2⟩
  · by_cases e : i = k
    · subst e
      refine ⟨v, hvk, hc3.row g2 (fun g hg e => ?_), hvb⟩
      rcases hvb g hg with h | h
      · exact hnb ⟨i, hi, by rw [← e]; exact h⟩
      · omega
    · obtain ⟨u, u1, u2, u3⟩ := h4 i hi (by omega)
      refine ⟨u, hoff i 1 hi (by omega) (by omega) _ (hc.cell u1 hkb), hc3.row (hc.row u2 fun g hg he => ?_) (fun g hg he => ?_), u3⟩
      · rcases u3 g hg with h | h
        · exact hne i hi e g h he
        · have := hB g ⟨k, hk, he.symm⟩
          omega
      · rcases u3 g hg with h | h
        · exact hnb ⟨i, hi, by rw [← he]; exact h⟩
        · omega
/-- The cells of a Book's own list, as they are kept. -/
def entCells (es : List Ent) : List Value := es.flatMap fun e => [e.l, .slice none 0 0, .int .i64 e.n]
theorem entCells_length (es : List Ent) : (entCells es).length = es.length * 3 := by
  induction es with
  | nil => rfl
  | cons e es ih =>
    have : entCells (e :: es) = [e.l, .slice none 0 0, .int .i64 e.n] ++ entCells es := rfl
    rw [this, List.length_append, ih]
    simp
    omega
theorem entCells_get (es : List Ent) : ∀ i (h : i < es.length), (entCells es)[i * 3]? = some es[i].l ∧ (entCells es)[i * 3 + 1]? = some (.slice none 0 0) ∧ (entCells es)[i * 3 + 2]? = some (.int .i64 es[i].n) := by
  induction es with
  | nil => intro i h; simp at h
  | cons e es ih =>
    intro i h
    have he : entCells (e :: es) = [e.l, .slice none 0 0, .int .i64 e.n] ++ entCells es := rfl
    cases i with
    | zero => rw [he]; exact ⟨rfl, rfl, rfl⟩
    | succ i =>
      have hi : i < es.length := by simpa using h
      obtain ⟨h1, h2, h3⟩ := ih i hi
      rw [he]
      refine ⟨?_, ?_, ?_⟩
      · rw [List.getElem?_append_right (by simp; omega)]; simp only [List.length_cons, List.length_nil, List.getElem_cons_succ]; rw [show (i + 1) * 3 - (0 + 1 + 1 + 1) = i * 3 by omega]; exact h1
      · rw [List.getElem?_append_right (by simp; omega)]; simp only [List.length_cons, List.length_nil]; rw [show (i + 1) * 3 + 1 - (0 + 1 + 1 + 1) = i * 3 + 1 by omega]; exact h2
      · rw [List.getElem?_append_right (by simp; omega)]; simp only [List.length_cons, List.length_nil, List.getElem_cons_succ]; rw [show (i + 1) * 3 + 2 - (0 + 1 + 1 + 1) = i * 3 + 2 by omega]; exact h3
theorem entCells_append (es : List Ent) (e : Ent) : entCells (es ++ [e]) = entCells es ++ [e.l, .slice none 0 0, .int .i64 e.n] := by simp [entCells]
/-- A Book's own list in memory. -/
def Own3 (base T : Nat) (w : World) (s : Value) (es : List Ent) : Prop := w.ownsRow base T 3 s es.length (entCells es)
theorem Own3.holds {base T : Nat} {w : World} {s : Value} {es : List Ent} (h : Own3 base T w s es) (hne : es ≠ []) : ∃ hb c, s = .slice (some ⟨hb, 0, none⟩) es.length c ∧ Holds w hb es ∧ base ≤ hb ∧ hb < w.heap.size := by
  rcases h.2 with ⟨_, h0⟩ | ⟨g, cap, cur, rfl, a2, a3, a4, a5, a6, a7⟩
  · exact absurd (List.eq_nil_of_length_eq_zero h0) hne
  · refine ⟨g, cap, rfl, fun i hi => ?_, a2, (Array.getElem?_eq_some_iff.1 a3).1⟩
    obtain ⟨e1, e2, e3⟩ := entCells_get es i hi
    have hg : ∀ j u, (entCells es)[j]? = some u → w.cell? ⟨g, j, none⟩ = some u := by
      intro j u hu
      have := World.ownsRow.cells h (g := g) rfl j u hu
      rwa [show (⟨g, 0, none⟩ : Addr).add j = ⟨g, j, none⟩ by unfold Addr.add; split <;> simp_all] at this
    exact ⟨hg _ _ e1, ⟨none, 0, 0, hg _ _ e2⟩, hg _ _ e3, frozen_of_row w g _ cur T a3⟩
/-- What a row becomes when three cells are written at a place. -/
def upd (p : Nat) (x y z : Value) (o : Obj) : Obj := match o with
  | .cells cur T fz => .cells (((cur.setIfInBounds p x).setIfInBounds (p + 1) y).setIfInBounds (p + 2) z) T fz
  | o => o
theorem set3_idem (cur : Array Value) (p : Nat) (x y z : Value) : ((((((cur.setIfInBounds p x).setIfInBounds (p + 1) y).setIfInBounds (p + 2) z).setIfInBounds p x).setIfInBounds (p + 1) y).setIfInBounds (p + 2) z) = ((cur.setIfInBounds p x).setIfInBounds (p + 1) y).setIfInBounds (p + 2) z := by
  apply Array.ext_getElem?
  intro i
  simp only [Array.getElem?_setIfInBounds, Array.size_setIfInBounds]
  by_cases h2 : p + 2 = i
  · simp [h2]
  · by_cases h1 : p + 1 = i
    · simp [h1, h2]
    · by_cases h0 : p = i
      · subst h0; simp
      · simp [h0, h1, h2]
theorem upd_upd (p : Nat) (x y z : Value) (o : Obj) : upd p x y z (upd p x y z o) = upd p x y z o := by
  cases o with
  | cells cur T fz => exact congrArg (fun c => Obj.cells c T fz) (set3_idem cur p x y z)
  | _ => rfl
/-- A world in which nothing has turned but, perhaps, one row, at one place. -/
structure AppR (hb : Option Nat) (p : Nat) (x y z : Value) (w w' : World) : Prop where
  os : w'.os = w.os
  tape : w'.tape = w.tape
  output : w'.output = w.output
  size : w.heap.size ≤ w'.heap.size
  block : ∀ k, k < w.heap.size → w'.heap[k]? = w.heap[k]? ∨ some k = hb ∧ w'.heap[k]? = (w.heap[k]?).map (upd p x y z)
theorem AppR.refl {hb : Option Nat} {p : Nat} {x y z : Value} (w : World) : AppR hb p x y z w w := ⟨rfl, rfl, rfl, Nat.le_refl _, fun _ _ => .inl rfl⟩
theorem AppR.trans {hb : Option Nat} {p : Nat} {x y z : Value} {a b c : World} (h : AppR hb p x y z a b) (k : AppR hb p x y z b c) : AppR hb p x y z a c := by
  refine ⟨k.os.trans h.os, k.tape.trans h.tape, k.output.trans h.output, Nat.le_trans h.size k.size, fun i hi => ?_⟩
  rcases k.block i (Nat.lt_of_lt_of_le hi h.size) with e | ⟨e, f⟩
  · rcases h.block i hi with e' | ⟨e', f'⟩
    · exact .inl (e.trans e')
    · exact .inr ⟨e', e.trans f'⟩
  · rcases h.block i hi with e' | ⟨e', f'⟩
    · exact .inr ⟨e, by rw [f, e']⟩
    · refine .inr ⟨e, ?_⟩
      rw [f, f', Option.map_map]
      congr 1
      funext o
      exact upd_upd ..
theorem AppR.of_ext {hb : Option Nat} {p : Nat} {x y z : Value} {w w' : World} (h : Ext w w') : AppR hb p x y z w w' := ⟨h.os, h.tape, h.output, h.size, fun k hk => .inl (h.block k hk)⟩
theorem AppR.chg {hb : Option Nat} {p : Nat} {x y z : Value} {w w' : World} (h : AppR hb p x y z w w') : Chg w w' (fun g => some g = hb) :=
  ⟨h.os, h.tape, h.output, h.size, fun k hk hn => (h.block k hk).resolve_right fun e => hn e.1⟩
/-- A row whose first cells do not reach the place stays. -/
theorem AppR.row {hb : Option Nat} {p : Nat} {x y z : Value} {w w' : World} (h : AppR hb p x y z w w') {base E sz n : Nat} {v : Value} {xs : List Value} (ho : w.ownsRow base E sz v n xs)
    (hs : ∀ g, v.ownBlock = some g → some g = hb → xs.length ≤ p ∨ (p + 3 = xs.length ∧ xs[p]? = some x ∧ xs[p + 1]? = some y ∧ xs[p + 2]? = some z)) : w'.ownsRow base E sz v n xs := by
  refine ⟨ho.1, ?_⟩
  rcases ho.2 with hn | ⟨g, cap, cur, rfl, hb', hgg, b4, b5, b6, b7⟩
  · exact .inl hn
  · rcases h.block g (Array.getElem?_eq_some_iff.1 hgg).1 with e | ⟨e, f⟩
    · exact .inr ⟨g, cap, cur, rfl, hb', by rw [e]; exact hgg, b4, b5, b6, b7⟩
    · subst e
      refine .inr ⟨g, cap, _, rfl, hb', by rw [f, hgg]; rfl, b4, b5, by simpa using b6, ?_⟩
      rw [← b7] at hs ⊢
      have hle : n * sz ≤ cur.size := by rw [b6]; exact Nat.mul_le_mul_right _ b4
      apply List.ext_getElem?
      intro i
      simp only [List.getElem?_take, Array.getElem?_toList]
      split
      · rename_i hi
        rcases hs _ rfl rfl with h1 | ⟨h1, h2, h3, h4⟩
        · rw [List.length_take, Array.length_toList] at h1
          rw [Array.getElem?_setIfInBounds_ne (by omega), Array.getElem?_setIfInBounds_ne (by omega), Array.getElem?_setIfInBounds_ne (by omega)]
        · rw [List.length_take, Array.length_toList] at h1
          simp only [List.getElem?_take, Array.getElem?_toList] at h2 h3 h4
          rw [if_pos (by omega)] at h2 h3 h4
          simp only [Array.getElem?_setIfInBounds, Array.size_setIfInBounds]
          repeat' split
          all_goals first | rfl | omega | (subst_vars; simp_all)
      · rfl
theorem set3_take (cur : List Value) (p : Nat) (x y z : Value) (h : p + 3 ≤ cur.length) : ((cur.set p x).set (p + 1) y).set (p + 2) z = cur.take p ++ [x, y, z] ++ cur.drop (p + 3) := by
  have e1 : cur = cur.take p ++ (cur.drop p) := (List.take_append_drop p cur).symm
  have h0 : (cur.take p).length = p := by rw [List.length_take]; omega
  rcases hd : cur.drop p with _ | ⟨a, t⟩
  · have := congrArg List.length hd; simp at this; omega
  · rcases t with _ | ⟨b, t⟩
    · have := congrArg List.length hd; simp at this; omega
    · rcases t with _ | ⟨c, t⟩
      · have := congrArg List.length hd; simp at this; omega
      · have e3 : cur.drop (p + 3) = t := by
          rw [← List.drop_drop, hd]; rfl
        rw [e3]
        conv => lhs; rw [e1, hd]
        rw [List.set_append_right _ _ (by omega), List.set_append_right _ _ (by omega), List.set_append_right _ _ (by omega), h0]
        simp
theorem append_ent {P : Program} (w : World) (base : Nat) (t ty T : TypeId) (i : TypeInfo) (z : Value) (bytes : Nat) (ht : P.underlying t = some (.slice T)) (hi : P.info? T = some i) (hz : i.zero = some z)
    (hsize : i.size = 3) (hby : i.bytes = bytes) (hzs : z.cells.size = 3) (s : Value) (es : List Ent) (hown : Own3 base T w s es) (e : Ent) (b : Nat)
    (hb : w.heap[b]? = some (.cells #[e.l, .slice none 0 0, .int .i64 e.n] T)) (h1 : e.l.oneCell' = true) (hlen : es.length ≤ 1000000) (hbytes : bytes ≤ 65536) (hbase : base ≤ w.heap.size) :
    ∃ v' w', (Builtin.append_ #[t, t] ty #[s, .slice (some ⟨b, 0, none⟩) 1 1]).run P w = .ok v' w' ∧ AppR s.ownBlock (es.length * 3) e.l (.slice none 0 0) (.int .i64 e.n) w w' ∧ Own3 base T w' v' (es ++ [e]) ∧ (v'.ownBlock = s.ownBlock ∨ v'.ownBlock = some w.heap.size) := by
  have hnews : ∀ j u, [e.l, .slice none 0 0, .int .i64 e.n][j]? = some u → w.cell? ((⟨b, 0, none⟩ : Addr).add j) = some u := by
    intro j u hu
    have hadd : (⟨b, 0, none⟩ : Addr).add j = ⟨b, j, none⟩ := by unfold Addr.add; split <;> simp_all
    rw [hadd, cell_of_row w b j _ T (0, 0) hb]
    simpa using hu
  have hone : ∀ u ∈ [e.l, .slice none 0 0, .int .i64 e.n], u.oneCell' = true := by
    intro u hu
    simp only [List.mem_cons, List.not_mem_nil, or_false] at hu
    rcases hu with rfl | rfl | rfl
    · exact h1
    · rfl
    · rfl
  have hbb : (es.length + 1) * bytes ≤ 140737488355328 := by
    have : (es.length + 1) * bytes ≤ 1000001 * 65536 := Nat.mul_le_mul (by omega) hbytes
    omega
  obtain ⟨v', w', r1, r2, r3⟩ := append_one (P := P) w base t ty T i z 3 bytes ht hi hz hsize hby hzs (by omega) s es.length _ hown ⟨b, 0, none⟩ 1 1 _ rfl hnews hone (by unfold maxLen; omega) hbb hbase (by omega)
  refine ⟨v', w', r1, ?_, by unfold Own3; rw [entCells_append]; simpa using r2, ?_⟩
  · rcases r3 with ⟨g, cap, rfl, rfl, r4⟩ | ⟨r4, r5⟩
    · refine ⟨r4.os, r4.tape, r4.output, r4.size, fun k hk => ?_⟩
      by_cases hkg : k = g
      · subst hkg
        right
        rcases hown.2 with ⟨x, _⟩ | ⟨g, cap', cur, x, b1, b2, b3, b4, b5, b6⟩
        · cases x
        · simp only [Value.slice.injEq, Option.some.injEq, Addr.mk.injEq, and_true, true_and] at x
          obtain ⟨rfl, rfl⟩ := x
          rcases r2.2 with ⟨x, _⟩ | ⟨g, cap', cur', x, c1, c2, c3, c4, c5, c6⟩
          · cases x
          · simp only [Value.slice.injEq, Option.some.injEq, Addr.mk.injEq, and_true, true_and] at x
            obtain ⟨rfl, rfl⟩ := x
            refine ⟨rfl, ?_⟩
            have hr := run_append_room (P := P) w t ty T i ht hi k es.length cap cur b2 ⟨b, 0, none⟩ 1 1 _ (by rw [hsize]; rfl) hnews hone c3 (by rw [hsize, b5]; simp; omega)
            rw [hr] at r1
            simp only [Result.ok.injEq] at r1
            rw [← r1.2, setRow_heap w k cur _ T _ b2, b2]
            simp only [Option.map, upd]
            congr 2
            apply Array.ext'
            simp only [Array.toList_setIfInBounds]
            rw [set3_take _ _ _ _ _ (by simp only [Array.length_toList]; omega), hsize]
            simp
      · exact .inl (r4.block k hk (by simpa using hkg))
    · exact ⟨r5.os, r5.tape, r5.output, r5.size, fun k hk => .inl (r5.block k hk (by simp))⟩
  · rcases r3 with ⟨g, cap, rfl, rfl, r4⟩ | ⟨r4, r5⟩
    · exact .inl rfl
    · exact .inr r4
/-- One new entry, in a block of its own. -/
def PB (b0 T : Nat) (l : Value) (n : Int) (W : World) (v : Value) : Prop := ∃ b, v = .slice (some ⟨b, 0, none⟩) 1 1 ∧ b0 ≤ b ∧ W.heap[b]? = some (.cells #[l, .slice none 0 0, .int .i64 n] T)
/-- The Book's list with one entry more. -/
def PA (base T b0 : Nat) (o : Option Nat) (es : List Ent) (W : World) (v : Value) : Prop := Own3 base T W v es ∧ (v.ownBlock = o ∨ ∃ b, v.ownBlock = some b ∧ b0 ≤ b)
theorem PB.stable {b0 T : Nat} {l : Value} {n : Int} {o : Option Nat} {p : Nat} {x y z : Value} (ho : ∀ g, o = some g → g < b0) {W W' : World} {v : Value} (h : AppR o p x y z W W') (hp : PB b0 T l n W v) : PB b0 T l n W' v := by
  obtain ⟨b, h1, h2, h3⟩ := hp
  refine ⟨b, h1, h2, ?_⟩
  rw [(h.block b (Array.getElem?_eq_some_iff.1 h3).1).resolve_right fun e => by have := ho b e.1.symm; omega]
  exact h3
theorem PA.stable {base T b0 : Nat} {o : Option Nat} {es : List Ent} {e : Ent} {W W' : World} {v : Value} (h : AppR o (es.length * 3) e.l (.slice none 0 0) (.int .i64 e.n) W W') (hp : PA base T b0 o (es ++ [e]) W v) : PA base T b0 o (es ++ [e]) W' v := by
  obtain ⟨h1, h2⟩ := hp
  refine ⟨h.row h1 fun g _ _ => .inr ?_, h2⟩
  obtain ⟨e1, e2, e3⟩ := entCells_get (es ++ [e]) es.length (by simp)
  rw [entCells_length]
  refine ⟨by simp; omega, ?_, e2, ?_⟩
  · rw [e1]; simp
  · rw [e3]; simp
theorem Own3.stable {base T : Nat} {s : Value} {es : List Ent} {W W' : World} {x y z : Value} (h : AppR s.ownBlock (es.length * 3) x y z W W') (hp : Own3 base T W s es) : Own3 base T W' s es :=
  h.row hp fun g _ _ => .inl (by rw [entCells_length]; exact Nat.le_refl _)
/-- A region in which one entry is put behind a Book's own list. -/
theorem region_app {id : Nat} {l : List Oper} {a : Act} {w : World} {Q : Exit → Act → World → Prop} (o : Option Nat) (p : Nat) (x y z : Value) (specs : List FSpec) (hok : okFree specs.length a.tmps.size l = true) (hst : StableAll (AppR o p x y z) specs)
    (h : freeSteps Tryz.prog l (AppR o p x y z) w Q 0 specs l a []) : (Code.region id l.toArray true).wp Tryz.prog Q a w :=
  region_free (AppR o p x y z) specs mixed hok AppR.refl (fun _ _ _ => AppR.trans) (fun w => AppR.of_ext (Ext.refl w).dr) (stableAll_mem hst) h
/-- A Book's cells but for its number and one kind. -/
def Rest (bk j : Nat) (w w' : World) : Prop := ∀ i, i ≠ 0 → i ≠ j → w'.cell? ⟨bk, i, none⟩ = w.cell? ⟨bk, i, none⟩
theorem Own3.shape {base T : Nat} {w : World} {v : Value} {es : List Ent} (h : Own3 base T w v es) : ∃ a c, v = .slice a es.length c := by
  rcases h.2 with ⟨rfl, h0⟩ | ⟨g, cap, cur, rfl, _⟩
  · exact ⟨none, 0, by rw [h0]⟩
  · exact ⟨_, _, rfl⟩
/-- What keeping leaves. -/
def Kept (bk j base T : Nat) (w : World) (s : Value) (es : List Ent) (e : Ent) (w' : World) : Prop :=
  ∃ sa' sc', Chg w w' (fun g => g = bk ∨ some g = s.ownBlock) ∧ w'.cell? ⟨bk, 0, none⟩ = some (.int .i64 e.n) ∧ w'.cell? ⟨bk, j, none⟩ = some (.slice sa' (es.length + 1) sc') ∧
    (∀ i, w'.frozen? ⟨bk, i, none⟩ = false) ∧ Rest bk j w w' ∧ PA base T w.heap.size s.ownBlock (es ++ [e]) w' (.slice sa' (es.length + 1) sc')
theorem kept_of {bk j base T : Nat} {w w1 W : World} {s s' va : Value} {es : List Ent} {e : Ent} {p : Nat} {x y z : Value} (hj : j ≠ 0) (hbw : bk < w.heap.size) (hbk : some bk ≠ s.ownBlock) (hc1 : Chg w w1 (fun g => g = bk)) (hsz : w1.heap.size = w.heap.size) (kr : Rest bk j w w1)
    (k0 : w1.cell? ⟨bk, 0, none⟩ = some (.int .i64 e.n)) (k4 : w1.cell? ⟨bk, j, none⟩ = some s') (kf : ∀ i, w1.frozen? ⟨bk, i, none⟩ = false) (hW : AppR s.ownBlock p x y z w1 W) (hp : PA base T w1.heap.size s.ownBlock (es ++ [e]) W va) :
    Kept bk j base T w s es e (W.setCell ⟨bk, j, none⟩ va) := by
  have hb : W.heap[bk]? = w1.heap[bk]? := (hW.block bk (by omega)).resolve_right fun h => hbk h.1
  have hc : Chg W (W.setCell ⟨bk, j, none⟩ va) (fun g => g = bk) := ⟨rfl, rfl, rfl, by simp, fun i _ hi => heap_setCell_other W _ i _ hi⟩
  obtain ⟨a', c', hva⟩ := hp.1.shape
  have hcell : ∀ i, W.cell? ⟨bk, i, none⟩ = w1.cell? ⟨bk, i, none⟩ := fun i => World.cell?_of_block hb
  have hne : ∀ g, va.ownBlock = some g → ¬ g = bk := by
    intro g hg e
    rcases hp.2 with h | ⟨b, h, h'⟩
    · exact hbk (by rw [← h, hg, e])
    · have : g = b := by rw [h] at hg; exact (Option.some.inj hg).symm
      omega
  have hlen : (es ++ [e]).length = es.length + 1 := by simp
  rw [hlen] at hva
  refine ⟨a', c', (hc1.mono fun g _ h => .inl h).trans ((hW.chg.mono fun g _ h => .inr h).trans (hc.mono fun g _ h => .inl h)), ?_, ?_, ?_, ?_, ?_⟩
  · rw [World.cell?_setCell_other (a := ⟨bk, j, none⟩) (b := ⟨bk, 0, none⟩) (h := fun e => hj (congrArg Addr.off e)), hcell, k0]
  · rw [← hva]
    exact World.cell?_setCell_same (h := (hcell j).trans k4) ..
  · intro i
    rw [World.frozen?_setCell, World.frozen?_of_block hb]
    exact kf i
  · intro i h0 hij
    rw [World.cell?_setCell_other (a := ⟨bk, j, none⟩) (b := ⟨bk, i, none⟩) (h := fun e => Ne.symm hij (congrArg Addr.off e)), hcell]
    exact kr i h0 hij
  · rw [← hva]
    refine ⟨hc.row hp.1 hne, ?_⟩
    rw [← hsz]
    exact hp.2
end Go.Proofs.YtplhndmncjoghaaGreatDoor
namespace Go.Proofs.YtplhndmncjoghaaGreatDoor
set_option maxRecDepth 100000
open Go Go.RowKit Go.Proofs
def mkLimb (n : Int) : Value := .int .u32 (100000 + n)
theorem markLimb_c (n : Int) (w : World) (h0 : 0 ≤ n) (h1 : n ≤ 1000000) : Calls Tryz.prog 123 #[.int .i64 n] w fun e w' => e = .returned (mkLimb n) ∧ w = w' := by
  go_enter Tryz.func123, Tryz.ntmps123
  go_wp2_with fail
  go_ret
  exact ⟨rfl, rfl⟩
theorem isLimb_c (n : Int) (w : World) (h0 : 0 ≤ n) (h1 : n ≤ 1000000) : Calls Tryz.prog 139 #[mkLimb n, .int .i64 n] w fun e w' => e = .returned (.bool true) ∧ w = w' := by
  unfold mkLimb
  go_enter Tryz.func139, Tryz.ntmps139
  go_wp2_with fail
  go_ret
  exact ⟨by simp, rfl⟩
theorem infoLimb : (Tryz.prog.info? 137).map (fun i => (i.zero, i.size, i.bytes)) = some (some (.int .u32 0), 1, 4) := by kernel_rfl
theorem underLimb : Tryz.prog.underlying 23 = some (.slice 137) := by kernel_rfl
set_option maxRecDepth 100000 in
theorem fillLimb_c (bk hb cap base : Nat) (es : List Ent) (w : World) (h : w.cell? ⟨bk, 1, none⟩ = some (.slice (some ⟨hb, 0, none⟩) es.length cap)) (h2 : es.length ≤ 1000000)
   (hH : Holds w hb es) (hL : Lists base 137 w es) (hD : Distinct es) (hb1 : ¬ Blocks es bk) (hb2 : ¬ Blocks es hb) (hn : ∀ i (h : i < es.length), es[i].n ≤ 1000000 ∧ es[i].len ≤ 281474976710656) :
   Calls Tryz.prog 42 #[.pointer (some ⟨bk, 0, none⟩)] w fun e w' => e = .returned (.tuple #[]) ∧ FillI base 137 mkLimb w w' es es.length := by
  have hst := mkHid (fill_start (mk := mkLimb) hL)
  replace hb1 := mkHid hb1
  replace hb2 := mkHid hb2
  replace hH := mkHid hH
  replace hD := mkHid hD
  replace hn := mkHid hn
  replace hL := mkHid hL
  go_enter Tryz.func42, Tryz.ntmps42
  go_wp2_with fail
  go_loopw [2] (fun i wr => ∃ k : Nat, k ≤ es.length ∧ i = .int .i64 k ∧ FillI base 137 mkLimb w wr es k) (fun i _ => es.length - (intOf i).toNat)
  case atStart => exact ⟨0, Nat.zero_le _, rfl, hst.out⟩
  case round =>
    obtain ⟨k, hk, rfl, hfi⟩ := hrel
    have hbk := hfi.1.cell h hb1.out
    by_cases hlt : k < es.length
    · obtain ⟨a1, ⟨la, ln, lc, a2⟩, a3, -⟩ := (hH.out.chg hfi.1 hb2.out) k hlt
      obtain ⟨hn1, hn2⟩ := hn.out k hlt
      obtain ⟨xs, hxs⟩ := hfi.2.2 k hlt
      have hstep := fun o W => fill_step (W := W) (o := o) hfi hlt hD.out
      replace hstep := mkHid hstep
      replace hfi := mkHid hfi
      obtain ⟨a, c, hv, hc1, hc2, hc3⟩ := owns_shape hxs
      obtain ⟨n, hne⟩ : ∃ n, n = es[k].n := ⟨_, rfl⟩
      obtain ⟨len, hle⟩ : ∃ len, len = es[k].len := ⟨_, rfl⟩
      rw [hv] at a1 hxs hstep
      rw [← hle] at a1 hxs hstep hc1 hc2 hc3 hn2
      rw [← hne] at a3 hstep hn1
      replace hxs := mkHid hxs
      replace hv := mkHid hv
      clear hne hle
      go_wp2_with fail
      obtain ⟨W1, hW1⟩ : ∃ W1, W1 = wr.alloc (.cells #[.slice a len c, .slice la ln lc, .int .i64 n] 136) := ⟨_, rfl⟩
      have hx1 : W1.ownsRow base 137 1 (.slice a len c) len xs := by rw [hW1]; exact hxs.out.alloc _
      have c0 : W1.cell? ⟨wr.heap.size, 0, none⟩ = some (.slice a len c) := by rw [hW1]; go_simp
      have c2 : W1.cell? ⟨wr.heap.size, 2, none⟩ = some (.int .i64 n) := by rw [hW1]; go_simp
      have hne : some wr.heap.size ≠ (Value.slice a len c).ownBlock := fun e => Nat.lt_irrefl _ (hxs.out.lt _ e.symm).2
      rw [← hW1]
      replace hW1 := mkHid hW1
      replace hxs := mkHid hxs
      generalize wr.heap.size = hh at *
      replace hx1 := mkHid hx1
      go_loopw [4] (fun j W2 => ∃ q : Nat, q ≤ len ∧ j = .int .i64 q ∧ W1.grownBy W2 (Value.slice a len c).ownBlock ∧ W2.ownsRow base 137 1 (.slice a len c) len (part (mkLimb n) xs q)) (fun j _ => len - (intOf j).toNat)
      case atStart => exact ⟨0, Nat.zero_le _, rfl, World.grownBy.refl _ _, by rw [part_zero]; exact hx1.out⟩
      case round =>
        obtain ⟨q, hq, rfl, hgr, how⟩ := hrel
        have d0 := hgr.cell c0 hne
        have d2 := hgr.cell c2 hne
        clear c0 c2
        by_cases hql : q < len
        · obtain ⟨g, rfl⟩ := hc3 (by omega)
          go_wp2_with fail
          have d0 := fun W (e : Ext wr W) => e.cell d0
          have d2 := fun W (e : Ext wr W) => e.cell d2
          have hmk := fun w => markLimb_c n w (by omega) (by omega)
          apply region_ext [.val _, .val _, .val _, .val _, .val _, .val _, .val _] (by kernel_rfl) (stable_vals _ (stable_vals _ (stable_vals _ (stable_vals _ (stable_vals _ (stable_vals _ (stable_vals _ trivial)))))))
          iterate 5 (refine ⟨fun W hW _ => by go_simp; exact ⟨Ext.refl _, rfl⟩, ?_⟩)
          refine ⟨fun W hW _ => by go_simp; exact (hmk W).mono (by rintro e w' ⟨rfl, rfl⟩; exact ⟨rfl, Ext.refl _⟩), ?_⟩
          iterate 1 (refine ⟨fun W hW _ => by go_simp; exact ⟨Ext.refl _, rfl⟩, ?_⟩)
          intro W hW _
          have how' := ownsRow_ext how hW
          obtain ⟨old, hold⟩ : ∃ old, W.cell? ⟨g, q, none⟩ = some old := by
            rw [how'.cellAt q (by omega), List.getElem?_eq_getElem (by rw [part_length _ _ _ (by omega)]; omega)]
            exact ⟨_, rfl⟩
          obtain ⟨hs1, hs2⟩ := how'.stored q (mkLimb n)
          rw [part_set _ _ _ (by omega)] at hs1
          have hgr' : W1.grownBy (W.setCell ⟨g, q, none⟩ (mkLimb n)) (Value.slice (some ⟨g, 0, none⟩) len c).ownBlock := grownBy_join hgr hW hs2
          replace hs1 := mkHid hs1
          replace hgr' := mkHid hgr'
          have hfz := how'.frozenAt q
          clear hs2 how how' hgr d0 d2 hmk
          go_simp
          unfold mkLimb at *
          go_wp2_with fail
          go_roundw
          case rel => exact ⟨q + 1, by omega, by go_num, hgr'.out, hs1.out⟩
          case measure => simp [intOf] <;> omega
        · obtain rfl : q = len := by omega
          go_wp2_with fail
          go_roundw
          case rel => 
            refine ⟨k + 1, by omega, by go_num, hstep.out _ _ (by rw [← hW1.out]; exact hgr) ?_⟩
            rw [← hc2, part_end] at how
            rw [← hc2]
            exact how
          case measure => simp [intOf] <;> omega
    · go_wp2_with fail
      go_end0
      obtain rfl : k = es.length := by omega
      exact ⟨rfl, hfi⟩
set_option maxHeartbeats 1600000 in
set_option maxRecDepth 100000 in
theorem growLimb_c (bk hb cap base : Nat) (es : List Ent) (w : World) (h : w.cell? ⟨bk, 1, none⟩ = some (.slice (some ⟨hb, 0, none⟩) es.length cap)) (h2 : es.length ≤ 1000000)
   (hH : Holds w hb es) (hM : Marked base 137 mkLimb w es es.length) (hD : Distinct es) (hb1 : ¬ Blocks es bk) (hb2 : ¬ Blocks es hb) (hb3 : bk ≠ hb) (hb4 : hb < w.heap.size) (hbs : base ≤ w.heap.size) (hn : ∀ i (h : i < es.length), es[i].n ≤ 1000000 ∧ es[i].len ≤ 1000000000) :
   Calls Tryz.prog 58 #[.pointer (some ⟨bk, 0, none⟩)] w fun e w' => e = .returned (.tuple #[]) ∧ GrowI base 137 mkLimb w w' hb es es.length := by
  have hst := mkHid (growI_start hM hH)
  have hBl : Hid (∀ g, Blocks es g → g < w.heap.size) := mkHid fun g ⟨i, hi, hg⟩ => ((hM i hi hi).lt g hg).2
  replace hb1 := mkHid hb1
  replace hb2 := mkHid hb2
  replace hb3 := mkHid hb3
  replace hH := mkHid hH
  replace hD := mkHid hD
  replace hn := mkHid hn
  replace hM := mkHid hM
  go_enter Tryz.func58, Tryz.ntmps58
  go_wp2_with fail
  go_loopw [2] (fun i wr => ∃ k : Nat, k ≤ es.length ∧ i = .int .i64 k ∧ GrowI base 137 mkLimb w wr hb es k) (fun i _ => es.length - (intOf i).toNat)
  case atStart => exact ⟨0, Nat.zero_le _, rfl, hst.out⟩
  case round =>
    obtain ⟨k, hk, rfl, hfi⟩ := hrel
    have hbk := hfi.1.cell h (fun e => e.elim hb1.out hb3.out)
    by_cases hlt : k < es.length
    · obtain ⟨a1, ⟨la, ln, lc, a2⟩, a3, hfz⟩ := hfi.2.2.1 k hlt
      obtain ⟨hn1, hn2⟩ := hn.out k hlt
      have hxs := hfi.2.1 k hlt hlt
      have hss := hfi.1.size
      have hstep := fun o W v => growI_step (W2 := W) (o := o) (v := v) hfi hlt hD.out hb4 hb2.out hBl.out
      replace hstep := mkHid hstep
      replace hfi := mkHid hfi
      obtain ⟨a, c, hv, hc1, hc2, hc3⟩ := owns_shape hxs
      obtain ⟨n, hne⟩ : ∃ n, n = es[k].n := ⟨_, rfl⟩
      obtain ⟨len, hle⟩ : ∃ len, len = es[k].len := ⟨_, rfl⟩
      rw [hv] at a1 hxs hstep
      rw [← hle] at a1 hxs hstep hc1 hc2 hc3 hn2 hv
      rw [← hne] at a3 hstep hn1 hxs
      replace hxs := mkHid hxs
      replace hv := mkHid hv
      clear hne hle hc2
      go_wp2_with fail
      obtain ⟨W1, hW1⟩ : ∃ W1, W1 = wr.alloc (.cells #[.slice a len c, .slice la ln lc, .int .i64 n] 136) := ⟨_, rfl⟩
      have hx1 : W1.ownsRow base 137 1 (.slice a len c) len (List.replicate len (mkLimb n)) := by rw [hW1]; exact hxs.out.alloc _
      have c2 : W1.cell? ⟨wr.heap.size, 2, none⟩ = some (.int .i64 n) := by rw [hW1]; go_simp
      have cbk : W1.cell? ⟨bk, 1, none⟩ = some (.slice (some ⟨hb, 0, none⟩) es.length cap) := by rw [hW1]; exact ((Chg.al wr _ (fun _ => False)).cell hbk (by simp))
      have clg : W1.cell? ⟨hb, k * 3 + 1, none⟩ = some (.slice la ln lc) := by rw [hW1]; exact ((Chg.al wr _ (fun _ => False)).cell a2 (by simp))
      have clg0 := mkHid clg
      have hfz : W1.frozen? ⟨hb, k * 3 + 1, none⟩ = false := by rw [hW1, World.frozen?_of_block ((Chg.al wr _ (fun _ => False)).block hb (World.block_lt_of_cell? _ _ a2) (by simp))]; exact hfz
      have hne : some wr.heap.size ≠ (Value.slice a len c).ownBlock := fun e => Nat.lt_irrefl _ (hxs.out.lt _ e.symm).2
      have hne2 : some bk ≠ (Value.slice a len c).ownBlock := fun e => hb1.out ⟨k, hlt, by rw [hv.out]; exact e.symm⟩
      have hne3 : some hb ≠ (Value.slice a len c).ownBlock := fun e => hb2.out ⟨k, hlt, by rw [hv.out]; exact e.symm⟩
      have hlw : ∀ g, (Value.slice a len c).ownBlock = some g → g < W1.heap.size := fun g e => (hx1.lt g e).2
      have hbw : base ≤ W1.heap.size := by rw [hW1]; simp; omega
      rw [← hW1]
      replace hW1 := mkHid hW1
      replace hxs := mkHid hxs
      replace hlw := mkHid hlw
      generalize wr.heap.size = hh at *
      have hgs := growR_start hx1
      clear a1 a2 a3 hbk hx1
      obtain ⟨i0, hi, hz0, hz1, hz2⟩ := info_parts infoLimb
      go_loopw [5, 4] (fun j lg W2 => ∃ q : Nat, q ≤ 70 ∧ j = .int .i64 q ∧ GrowR base 137 (mkLimb n) W1 W2 (.slice a len c) len lg q) (fun j _ _ => 70 - (intOf j).toNat)
      case atStart => exact ⟨0, Nat.zero_le _, rfl, hgs⟩
      case round =>
        obtain ⟨q, hq, rfl, hgr⟩ := hrel
        have d2 := hgr.1.cell c2 hne
        have dbk := hgr.1.cell cbk hne2
        have dlg := hgr.1.cell clg hne3
        clear c2 cbk clg
        by_cases hql : q < 70
        · obtain ⟨v', w', happ, hgr'⟩ := growR_step underLimb hi hz0 hz1 hz2 rfl (m := mkLimb n) rfl (ty := 23) hgr hlw.out hbw (by omega) (by omega)
          replace hgr := mkHid hgr
          replace hgr' := mkHid hgr'
          unfold mkLimb at happ
          replace happ := mkHid happ
          go_wp2_with (first | (at_builtin; refine wpList_append_ran rfl (.tmp 28) (.tmp 32) 23 rfl rfl rfl happ.out ?_) | (go_at_call 123; refine (markLimb_c n _ (by omega) (by omega)).mono ?_; unfold mkLimb; rintro e w' ⟨rfl, rfl⟩))
          go_roundw
          case rel => exact ⟨q + 1, by omega, by go_num, hgr'.out⟩
          case measure => simp [intOf] <;> omega
        · obtain rfl : q = 70 := by omega
          obtain ⟨a4, c4, hlg, -⟩ := owns_shape hgr.2.1
          have hfz4 : wr.frozen? ⟨hb, k * 3 + 1, none⟩ = false := by
            rw [World.frozen?_of_block ((Chg.grown hgr.1).block hb (World.block_lt_of_cell? _ _ clg0.out) hne3)]
            exact hfz
          have hst2 := hstep.out _ _ _ (by rw [← hW1.out]; exact hgr)
          rw [hlg] at hst2 ⊢
          replace hst2 := mkHid hst2
          replace hgr := mkHid hgr
          go_wp2_with fail
          go_roundw
          case rel => exact ⟨k + 1, by omega, by go_num, hst2.out⟩
          case measure => simp [intOf] <;> omega
    · go_wp2_with fail
      go_end0
      obtain rfl : k = es.length := by omega
      exact ⟨rfl, hfi⟩
set_option maxHeartbeats 1600000 in
set_option maxRecDepth 100000 in
theorem lookLimb_c (bk hb cap base : Nat) (es : List Ent) (w0 w : World) (h : w.cell? ⟨bk, 1, none⟩ = some (.slice (some ⟨hb, 0, none⟩) es.length cap)) (h2 : es.length ≤ 1000000)
   (hG : LookI base 137 mkLimb w0 w hb es es.length) (hn : ∀ i (h : i < es.length), es[i].n ≤ 1000000 ∧ es[i].len ≤ 1000000000) :
   Calls Tryz.prog 74 #[.pointer (some ⟨bk, 0, none⟩)] w fun e w' => e = .returned (.bool true) ∧ Ext w w' := by
  replace hG := mkHid hG
  replace hn := mkHid hn
  go_enter Tryz.func74, Tryz.ntmps74
  go_wp2_with fail
  go_loopw [3] (fun i wr => ∃ k : Nat, k ≤ es.length ∧ i = .int .i64 k ∧ Ext w wr) (fun i _ => es.length - (intOf i).toNat)
  case atStart => exact ⟨0, Nat.zero_le _, rfl, Ext.refl _⟩
  case round =>
    obtain ⟨k, hk, rfl, hE⟩ := hrel
    have hbk := hE.cell h
    by_cases hlt : k < es.length
    · obtain ⟨a1, -, a3, -⟩ := hG.out.2.2.1 k hlt
      obtain ⟨lg, a2, hlo, -⟩ := hG.out.2.2.2 k hlt hlt
      obtain ⟨hn1, hn2⟩ := hn.out k hlt
      have hxs := hG.out.2.1 k hlt hlt
      obtain ⟨a, c, hv, hr⟩ := row_of_owns hxs
      obtain ⟨a', c', hv', hr'⟩ := row_of_owns hlo
      have hr := hr.2
      have hr' := hr'.2
      subst hv'
      rw [hv] at a1
      obtain ⟨n, hne⟩ : ∃ n, n = es[k].n := ⟨_, rfl⟩
      obtain ⟨len, hle⟩ : ∃ len, len = es[k].len := ⟨_, rfl⟩
      rw [← hle] at a1 a2 hr hr' hn2
      rw [← hne] at a3 hn1 hr hr'
      replace a1 := hE.cell a1
      replace a2 := hE.cell a2
      replace a3 := hE.cell a3
      replace hr := hr.ext hE
      replace hr' := hr'.ext hE
      clear hv hne hle hxs hlo
      replace hr := mkHid hr
      replace hr' := mkHid hr'
      replace hE := mkHid hE
      go_wp2_with fail
      obtain ⟨W1, hW1⟩ : ∃ W1, W1 = wr.alloc (.cells #[.slice a len c, .slice a' (len + 70) c', .int .i64 n] 136) := ⟨_, rfl⟩
      have hE1 : Ext wr W1 := by rw [hW1]; exact (Ext.refl _).al _
      have c0 : W1.cell? ⟨wr.heap.size, 0, none⟩ = some (.slice a len c) := by rw [hW1]; go_simp
      have c1 : W1.cell? ⟨wr.heap.size, 1, none⟩ = some (.slice a' (len + 70) c') := by rw [hW1]; go_simp
      have c2 : W1.cell? ⟨wr.heap.size, 2, none⟩ = some (.int .i64 n) := by rw [hW1]; go_simp
      have hr2 := mkHid (hr.out.ext hE1)
      have hr2' := mkHid (hr'.out.ext hE1)
      have hE2 := mkHid (hE.out.trans hE1)
      rw [← hW1]
      generalize wr.heap.size = hh at *
      clear hr hr' hE hE1 hW1 a1 a2 a3 hbk
      have hic := fun w => isLimb_c n w (by omega) (by omega)
      unfold mkLimb at hic
      replace hic := mkHid hic
      go_loopw [5] (fun j W2 => ∃ q : Nat, q ≤ len + 70 ∧ j = .int .i64 q ∧ ∃ m, W2 = W1.drewN m) (fun j _ => len + 70 - (intOf j).toNat)
      case atStart => exact ⟨0, Nat.zero_le _, rfl, 0, rfl⟩
      case round =>
        obtain ⟨q, hq, rfl, hd⟩ := hrel
        replace c0 : wr.cell? _ = _ := (cell_drew hd _).trans c0
        replace c1 : wr.cell? _ = _ := (cell_drew hd _).trans c1
        replace c2 : wr.cell? _ = _ := (cell_drew hd _).trans c2
        by_cases hql : q < len + 70
        · obtain ⟨b', off', ha', hc'⟩ := hr2'.out
          have x1 := hc' q (by simpa using hql)
          have hA' := ha' (by simp)
          have hg1 : (List.replicate (len + 70) (mkLimb n)).getD q undef = .int .u32 (100000 + n) := by simp [List.getD_eq_getElem?_getD, hql, mkLimb]
          rw [hg1] at x1
          replace x1 : wr.cell? _ = _ := (cell_drew hd _).trans x1
          rw [hA'] at c1 ⊢
          clear hg1 ha' hc' hA'
          by_cases hql2 : q < len
          · obtain ⟨b, off, ha, hc⟩ := hr2.out
            have x2 := hc q (by simpa using hql2)
            have hA := ha (by simp; omega)
            have hg2 : (List.replicate len (mkLimb n)).getD q undef = .int .u32 (100000 + n) := by simp [List.getD_eq_getElem?_getD, hql2, mkLimb]
            rw [hg2] at x2
            replace x2 : wr.cell? _ = _ := (cell_drew hd _).trans x2
            rw [hA] at c0 ⊢
            clear hg2 ha hc hA
            replace hd := mkHid hd
            go_wp2_with fail
            go_quiet ((go_at_call 139; exact Calls.quiet_of_same ((hic.out _).mono fun _ _ h => ⟨h.1, h.2.symm⟩)))
            go_wp2_with fail
            go_roundw
            case rel => exact ⟨q + 1, by omega, by go_num, drew_more hd.out _⟩
            case measure => simp [intOf] <;> omega
          · replace hd := mkHid hd
            go_wp2_with fail
            go_quiet ((go_at_call 139; exact Calls.quiet_of_same ((hic.out _).mono fun _ _ h => ⟨h.1, h.2.symm⟩)))
            go_wp2_with fail
            go_roundw
            case rel => exact ⟨q + 1, by omega, by go_num, drew_more hd.out _⟩
            case measure => simp [intOf] <;> omega
        · obtain rfl : q = len + 70 := by omega
          have hE3 : Ext w wr := by
            obtain ⟨m, rfl⟩ := hd
            exact hE2.out.drN _
          replace hE3 := mkHid hE3
          replace hd := mkHid hd
          go_wp2_with fail
          go_roundw
          case rel => exact ⟨k + 1, by omega, by go_num, hE3.out⟩
          case measure => simp [intOf] <;> omega
    · go_wp2_with fail
      go_ret
      exact ⟨rfl, hE⟩
theorem infoHeldLimb : (Tryz.prog.info? 136).map (fun i => (i.zero, i.size, i.bytes)) = some (some (.agg #[.slice none 0 0, .slice none 0 0, .int .i64 0]), 3, 56) := by kernel_rfl
theorem underHeldLimb : Tryz.prog.underlying 55 = some (.slice 136) := by kernel_rfl
set_option maxHeartbeats 1600000 in
set_option maxRecDepth 100000 in
theorem keepLimb_c (bk base : Nat) (sa : Option Addr) (sc : Nat) (la : Option Addr) (len lc : Nat) (es : List Ent) (n : Nat) (w : World) (hn : n ≤ 1000000) (hes : es.length ≤ 1000000)
    (h0 : w.cell? ⟨bk, 0, none⟩ = some (.int .i64 n)) (hs : w.cell? ⟨bk, 1, none⟩ = some (.slice sa es.length sc)) (hf : ∀ j, w.frozen? ⟨bk, j, none⟩ = false)
    (ho : Own3 base 136 w (.slice sa es.length sc) es) (hbk : some bk ≠ (Value.slice sa es.length sc).ownBlock) (hbs : base ≤ w.heap.size) :
    Calls Tryz.prog 246 #[.pointer (some ⟨bk, 0, none⟩), .slice la len lc] w fun e w' => e = .returned (.tuple #[]) ∧
      Kept bk 1 base 136 w (.slice sa es.length sc) es (Ent.mk (.slice la len lc) (n + 1) len) w' := by
  have hbw : bk < w.heap.size := World.block_lt_of_cell? w _ h0
  have hf0 := hf 0
  replace hf := mkHid hf
  replace ho := mkHid ho
  go_enter Tryz.func246, Tryz.ntmps246
  go_wp2_with fail
  obtain ⟨N, hN⟩ : ∃ N, N = n + 1 := ⟨_, rfl⟩
  rw [show (n : Int) + 1 = (N : Int) by omega]
  replace hN := mkHid hN
  obtain ⟨w1, hw1⟩ : ∃ w1, w1 = w.setCell ⟨bk, 0, none⟩ (.int .i64 (N : Int)) := ⟨_, rfl⟩
  have hc1 : Chg w w1 (fun g => g = bk) := by rw [hw1]; exact ⟨rfl, rfl, rfl, by simp, fun j _ hj => heap_setCell_other w _ j _ hj⟩
  have k0 : w1.cell? ⟨bk, 0, none⟩ = some (.int .i64 (N : Int)) := by rw [hw1]; exact World.cell?_setCell_same (h := h0) ..
  have k4 : w1.cell? ⟨bk, 1, none⟩ = some (.slice sa es.length sc) := by rw [hw1, World.cell?_setCell_other _ _ _ _ (by simp)]; exact hs
  have kr : Rest bk 1 w w1 := fun i hi _ => by rw [hw1, World.cell?_setCell_other (a := ⟨bk, 0, none⟩) (b := ⟨bk, i, none⟩) (h := fun e => Ne.symm hi (congrArg Addr.off e))]
  have kf : ∀ j, w1.frozen? ⟨bk, j, none⟩ = false := fun j => by rw [hw1, World.frozen?_setCell]; exact hf.out j
  have ko : Own3 base 136 w1 (.slice sa es.length sc) es := hc1.row ho.out fun g hg e => hbk (by rw [hg, e])
  have hsz : w1.heap.size = w.heap.size := by rw [hw1]; simp
  have hol : ∀ g, (Value.slice sa es.length sc).ownBlock = some g → g < w1.heap.size := fun g e => (ko.lt g e).2
  rw [← hw1]
  have hbk1 : bk < w1.heap.size := by omega
  have hnb : ∀ W, AppR (Value.slice sa es.length sc).ownBlock (es.length * 3) (.slice la len lc) (.slice none 0 0) (.int .i64 (N : Int)) w1 W → W.heap[bk]? = w1.heap[bk]? := fun W e => (e.block bk hbk1).resolve_right fun h => hbk h.1
  have g0 : ∀ W, AppR (Value.slice sa es.length sc).ownBlock (es.length * 3) (.slice la len lc) (.slice none 0 0) (.int .i64 (N : Int)) w1 W → W.cell? ⟨bk, 0, none⟩ = some (.int .i64 (N : Int)) := fun W e => (World.cell?_of_block (hnb W e)).trans k0
  have g4 : ∀ W, AppR (Value.slice sa es.length sc).ownBlock (es.length * 3) (.slice la len lc) (.slice none 0 0) (.int .i64 (N : Int)) w1 W → W.cell? ⟨bk, 1, none⟩ = some (.slice sa es.length sc) := fun W e => (World.cell?_of_block (hnb W e)).trans k4
  replace hnb := mkHid hnb
  replace hw1 := mkHid hw1
  replace kr := mkHid kr
  replace kf := mkHid kf
  replace ko := mkHid ko
  replace hc1 := mkHid hc1
  replace hol := mkHid hol
  replace k0 := mkHid k0
  replace k4 := mkHid k4
  clear h0 hs hf0
  apply region_app (Value.slice sa es.length sc).ownBlock (es.length * 3) (.slice la len lc) (.slice none 0 0) (.int .i64 (N : Int))
    [.val _, .val _, .val _, .val _, .val _, .val _, .val _, .val _, .val _, .val _, .val _, .pred (PB w1.heap.size 136 (.slice la len lc) (N : Int)),
     .pred (PA base 136 w1.heap.size (Value.slice sa es.length sc).ownBlock (es ++ [Ent.mk (.slice la len lc) N len])), .val _, .val _] (by kernel_rfl)
    (stable_vals _ (stable_vals _ (stable_vals _ (stable_vals _ (stable_vals _ (stable_vals _ (stable_vals _ (stable_vals _ (stable_vals _ (stable_vals _ (stable_vals _
      ⟨fun W W' v e h => PB.stable hol.out e h, fun W W' v e h => PA.stable (es := es) (e := Ent.mk (.slice la len lc) N len) e h, stable_vals _ (stable_vals _ trivial)⟩)))))))))))
  iterate 11 (refine ⟨fun W hW _ => by go_simp; exact ⟨AppR.refl _, rfl⟩, ?_⟩)
  refine ⟨fun W hW _ => ?pb, fun vb => ?_⟩
  case pb =>
    go_simp
    exact ⟨AppR.of_ext ((Ext.refl _).al _), W.heap.size, rfl, by have := hW.size; omega, heap_alloc_new W _⟩
  refine ⟨fun W hW hF => ?pa, fun va => ?_⟩
  case pa =>
    obtain ⟨b, rfl, hb1, hb2⟩ := hF.1 (by kernel_rfl)
    rw [if_pos (by kernel_rfl)]
    obtain ⟨i0, hi, hz0, hz1, hz2⟩ := info_parts infoHeldLimb
    obtain ⟨v', w', r1, r2, r3, r4⟩ := append_ent (P := Tryz.prog) W base 55 55 136 i0 _ 56 underHeldLimb hi hz0 hz1 hz2 rfl (.slice sa es.length sc) es (ko.out.stable hW) (Ent.mk (.slice la len lc) N len) b hb2 rfl hes (by omega) (by have := hW.size; omega)
    refine givesV_append_ran (vs := .slice sa es.length sc) (vx := .slice (some ⟨b, 0, none⟩) 1 1) (.tmp 15) (.tmp 22) 55 rfl (by simp [Act.eval, Act.put]) (by simp [Act.eval, Act.put]) r1 ⟨r2, r3, ?_⟩
    rcases r4 with h | h
    · exact .inl h
    · exact .inr ⟨_, h, hW.size⟩
  iterate 2 (refine ⟨fun W hW _ => by go_simp; exact ⟨AppR.refl _, rfl⟩, ?_⟩)
  intro W hW hF
  have hp : PA base 136 w1.heap.size (Value.slice sa es.length sc).ownBlock (es ++ [Ent.mk (.slice la len lc) N len]) W va := hF.1 rfl
  clear hF
  have hfin := kept_of (j := 1) (by decide) hbw hbk hc1.out hsz kr.out k0.out k4.out kf.out hW hp
  rw [hN.out] at hfin
  obtain ⟨a', c', hva⟩ := hp.1.shape
  rw [show (es ++ [Ent.mk (.slice la len lc) N len]).length = es.length + 1 by simp] at hva
  have q4 := g4 W hW
  have qf : W.frozen? ⟨bk, 1, none⟩ = false := by rw [World.frozen?_of_block (hnb.out W hW)]; exact kf.out 1
  subst hva
  replace hfin := mkHid hfin
  replace hp := mkHid hp
  replace hW := mkHid hW
  clear g0 g4
  go_simp
  go_wp2_with fail
  go_end0
  exact ⟨rfl, hfin.out⟩
end Go.Proofs.YtplhndmncjoghaaGreatDoor
