/-
  Slits: what it refuses; the reference's Slits.
-/
import Derived.Test.YtbpjggljbkppaaaGreatDoorSlits
namespace Go.Proofs.YtbpjggljbkppaaaGreatDoor
open Go Go.RowKit Go.Proofs
theorem slits_arg (n s wd ap : Int) (w : World) (h : n < 0 ∨ s < 1 ∨ wd < 1 ∨ ap < wd) :
    Calls Tryz.prog 5 #[.int .i64 n, .int .i64 s, .int .i64 wd, .int .i64 ap] w fun e w' => e = .returned (.tuple #[.slice none 0 0, .int .i64 1]) ∧ w = w' := by
  replace h := mkHid h
  go_enter Tryz.func5, Tryz.ntmps5
  by_cases h1 : n < 0
  · go_wp2_with fail
    go_ret2
    exact ⟨rfl, rfl⟩
  · by_cases h2 : s < 1
    · go_wp2_with fail
      go_ret2
      exact ⟨rfl, rfl⟩
    · by_cases h3 : wd < 1
      · go_wp2_with fail
        go_ret2
        exact ⟨rfl, rfl⟩
      · have h4 : ap < wd := by have := h.out; omega
        go_wp2_with fail
        go_ret2
        exact ⟨rfl, rfl⟩
theorem slits_lim (n s wd ap : Int) (w : World) (h0 : 0 ≤ n) (h1 : 1 ≤ s) (h2 : 1 ≤ wd) (h3 : wd ≤ ap) (h4 : 16 < n) :
    Calls Tryz.prog 5 #[.int .i64 n, .int .i64 s, .int .i64 wd, .int .i64 ap] w fun e w' => e = .returned (.tuple #[.slice none 0 0, .int .i64 4]) ∧ w = w' := by
  go_enter Tryz.func5, Tryz.ntmps5
  go_wp2_with fail
  go_ret2
  exact ⟨rfl, rfl⟩
theorem slits_lim2 (n s wd ap : Int) (p : Nat) (w : World) (h0 : 0 ≤ n) (h1 : 1 ≤ s) (h2 : 1 ≤ wd) (h3 : wd ≤ ap) (h4 : n ≤ 16)
    (hp : wrap64 (2 ^ n.toNat) = (p : Int)) (_hp1 : p ≤ 65536) (hw : (p : Int) < wd) :
    Calls Tryz.prog 5 #[.int .i64 n, .int .i64 s, .int .i64 wd, .int .i64 ap] w fun e w' => e = .returned (.tuple #[.slice none 0 0, .int .i64 4]) ∧ w = w' := by
  go_enter Tryz.func5, Tryz.ntmps5
  go_wp2_with fail
  go_ret2
  exact ⟨rfl, rfl⟩
theorem slits_lim3 (n s wd ap : Int) (p : Nat) (w : World) (h0 : 0 ≤ n) (h1 : 1 ≤ s) (h2 : 1 ≤ wd) (h3 : wd ≤ ap) (h4 : n ≤ 16) (_hap : ap ≤ 9223372036854775807) (hs : s ≤ 9223372036854775807)
    (hp : wrap64 (2 ^ n.toNat) = (p : Int)) (hp1 : p ≤ 65536) (hw : wd ≤ p) (hq : ((p : Int) - wd) / ap < s - 1) :
    Calls Tryz.prog 5 #[.int .i64 n, .int .i64 s, .int .i64 wd, .int .i64 ap] w fun e w' => e = .returned (.tuple #[.slice none 0 0, .int .i64 4]) ∧ w = w' := by
  go_enter Tryz.func5, Tryz.ntmps5
  go_wp2_with fail
  go_ret2
  exact ⟨rfl, rfl⟩
end Go.Proofs.YtbpjggljbkppaaaGreatDoor
