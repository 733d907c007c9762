/-
  The reference's Slits.
-/
import Derived.Test.YtbpjggljbkppaaaGreatDoorSlits2
namespace Go.Proofs.YtbpjggljbkppaaaGreatDoor
open Go Go.RowKit Go.Proofs
theorem pow_le16 {k : Nat} (h : k ≤ 16) : 2 ^ k ≤ 65536 := Nat.pow_le_pow_right (n := 2) (by omega) h
theorem power_c (n : Nat) (w : World) (h : n ≤ 16) : Calls Tryz.prog 18 #[.int .i64 n] w fun e w' => e = .returned (.int .i64 ((2 ^ n : Nat) : Int)) ∧ w = w' := by
  go_enter Tryz.func18, Tryz.ntmps18
  go_wp2_with fail
  go_loopw [4, 3] (fun i p wr => ∃ k q : Nat, k ≤ n ∧ q = 2 ^ k ∧ i = .int .i64 k ∧ p = .int .i64 q ∧ wr = w) (fun i _ _ => n - (intOf i).toNat)
  case atStart => exact ⟨0, 1, by simp⟩
  case round =>
    obtain ⟨k, q, hk, hq, rfl, rfl, rfl⟩ := hrel
    by_cases hlt : k < n
    · have hb := pow_le16 (show k + 1 ≤ 16 by omega)
      have hq2 : 2 * q = 2 ^ (k + 1) := by rw [hq, Nat.pow_succ]; omega
      rw [← hq2] at hb
      replace hq2 := mkHid hq2
      clear hq
      go_wp2_with fail
      go_roundw
      case rel => exact ⟨k + 1, 2 * q, by omega, hq2.out, by go_num, by go_num, by simp⟩
      case measure => simp [intOf] <;> omega
    · obtain rfl : k = n := by omega
      subst hq
      go_wp2_with fail
      go_ret
      exact ⟨rfl, rfl⟩
theorem refSlits_arg (n s wd ap : Int) (w : World) (h : n < 0 ∨ s < 1 ∨ wd < 1 ∨ ap < wd) :
    Calls Tryz.prog 6 #[.int .i64 n, .int .i64 s, .int .i64 wd, .int .i64 ap] w fun e w' => e = .returned (.tuple #[.slice none 0 0, .int .i64 1]) ∧ w = w' := by
  replace h := mkHid h
  go_enter Tryz.func6, Tryz.ntmps6
  by_cases h1 : n < 0
  · go_wp2_with fail
    go_ret2
    exact ⟨rfl, rfl⟩
  · by_cases h2 : s < 1
    · go_wp2_with fail
      go_ret2
      exact ⟨rfl, rfl⟩
    · by_cases h3 : wd < 1
      · go_wp2_with fail
        go_ret2
        exact ⟨rfl, rfl⟩
      · have h4 : ap < wd := by have := h.out; omega
        go_wp2_with fail
        go_ret2
        exact ⟨rfl, rfl⟩
theorem refSlits_lim (n s wd ap : Int) (w : World) (h0 : 0 ≤ n) (h1 : 1 ≤ s) (h2 : 1 ≤ wd) (h3 : wd ≤ ap) (h4 : 16 < n) :
    Calls Tryz.prog 6 #[.int .i64 n, .int .i64 s, .int .i64 wd, .int .i64 ap] w fun e w' => e = .returned (.tuple #[.slice none 0 0, .int .i64 4]) ∧ w = w' := by
  go_enter Tryz.func6, Tryz.ntmps6
  go_wp2_with fail
  go_ret2
  exact ⟨rfl, rfl⟩
theorem refSlits_lim2 (n : Nat) (s wd ap : Int) (p : Nat) (w : World) (h1 : 1 ≤ s) (h2 : 1 ≤ wd) (h3 : wd ≤ ap) (h4 : n ≤ 16)
    (hp : 2 ^ n = p) (_hp1 : p ≤ 65536) (hw : (p : Int) < wd) :
    Calls Tryz.prog 6 #[.int .i64 n, .int .i64 s, .int .i64 wd, .int .i64 ap] w fun e w' => e = .returned (.tuple #[.slice none 0 0, .int .i64 4]) ∧ w = w' := by
  have hpw := power_c n w h4
  rw [hp] at hpw
  replace hpw := mkHid hpw
  replace hp := mkHid hp
  go_enter Tryz.func6, Tryz.ntmps6
  go_wp2_with (go_at_call 18; refine hpw.out.mono ?_; rintro e w' ⟨rfl, rfl⟩)
  go_ret2
  exact ⟨rfl, rfl⟩
theorem refSlits_lim3 (n : Nat) (s wd ap : Int) (p : Nat) (w : World) (h1 : 1 ≤ s) (h2 : 1 ≤ wd) (h3 : wd ≤ ap) (h4 : n ≤ 16) (_hap : ap ≤ 9223372036854775807) (hs : s ≤ 9223372036854775807)
    (hp : 2 ^ n = p) (_hp1 : p ≤ 65536) (hw : wd ≤ p) (hq : ((p : Int) - wd) / ap < s - 1) :
    Calls Tryz.prog 6 #[.int .i64 n, .int .i64 s, .int .i64 wd, .int .i64 ap] w fun e w' => e = .returned (.tuple #[.slice none 0 0, .int .i64 4]) ∧ w = w' := by
  have hpw := power_c n w h4
  rw [hp] at hpw
  replace hpw := mkHid hpw
  replace hp := mkHid hp
  go_enter Tryz.func6, Tryz.ntmps6
  go_wp2_with (go_at_call 18; refine hpw.out.mono ?_; rintro e w' ⟨rfl, rfl⟩)
  go_ret2
  exact ⟨rfl, rfl⟩
set_option maxRecDepth 100000 in
set_option maxHeartbeats 800000 in
theorem refSlits_ok (n : Nat) (s wd ap : Int) (p : Nat) (w : World) (h1 : 1 ≤ s) (h2 : 1 ≤ wd) (h3 : wd ≤ ap) (h4 : n ≤ 16) (_hap : ap ≤ 9223372036854775807) (hs : s ≤ 9223372036854775807)
    (hp : 2 ^ n = p) (hp1 : p ≤ 65536) (hw : wd ≤ p) (hq : s - 1 ≤ ((p : Int) - wd) / ap) :
    Calls Tryz.prog 6 #[.int .i64 n, .int .i64 s, .int .i64 wd, .int .i64 ap] w fun e w' =>
      e = .returned (.tuple #[.slice (some ⟨w.heap.size, 0, none⟩) p p, .int .i64 0]) ∧ ∃ arr : Array Value, w' = w.alloc (.cells arr 61) ∧ Lit wd.toNat ap.toNat p s.toNat 0 arr := by
  have hmk := fun w => makeC p w hp1
  have hpw := power_c n w h4
  rw [hp] at hpw
  replace hpw := mkHid hpw
  replace hp := mkHid hp
  have hin : ∀ j k : Nat, (j : Int) < s → (k : Int) < wd → 0 ≤ (j : Int) * ap ∧ (j : Int) * ap + k < p := by
    intro j k hj hk
    have a1 : (s - 1) * ap ≤ (p : Int) - wd := by
      have := Int.mul_le_mul_of_nonneg_right hq (show 0 ≤ ap by omega)
      have b := Int.ediv_mul_le ((p : Int) - wd) (show ap ≠ 0 by omega)
      omega
    have a2 : (j : Int) * ap ≤ (s - 1) * ap := Int.mul_le_mul_of_nonneg_right (by omega) (by omega)
    exact ⟨Int.mul_nonneg (by omega) (by omega), by omega⟩
  have HIN := mkHid hin
  clear hin
  go_enter Tryz.func6, Tryz.ntmps6
  go_wp2_with (go_at_call 18; refine hpw.out.mono ?_; rintro e w' ⟨rfl, rfl⟩)
  clear hpw
  go_loopw [12] (fun j wr => ∃ J : Nat, (J : Int) ≤ s ∧ j = .int .i64 J ∧ ∃ arr, wr = w.alloc (.cells arr 61) ∧ Lit wd.toNat ap.toNat p J 0 arr) (fun j _ => (s - intOf j).toNat)
  case atStart => exact ⟨0, by omega, rfl, _, rfl, lit_start _ _ _⟩
  case round =>
    obtain ⟨J, hJ, rfl, arr, rfl, hlit⟩ := hrel
    have hLit := mkHid hlit
    clear hlit
    by_cases hlt : (J : Int) < s
    · go_wp2_with fail
      go_loopw [13] (fun k wr => ∃ K : Nat, (K : Int) ≤ wd ∧ k = .int .i64 K ∧ ∃ arr, wr = w.alloc (.cells arr 61) ∧ Lit wd.toNat ap.toNat p J K arr) (fun k _ => (wd - intOf k).toNat)
      case atStart => exact ⟨0, by omega, rfl, _, rfl, hLit.out⟩
      case round =>
        obtain ⟨K, hK, rfl, arr', rfl, hlit'⟩ := hrel
        by_cases hltk : (K : Int) < wd
        · obtain ⟨b1, b2⟩ := HIN.out J K hlt hltk
          have hsz := hlit'.1
          have hset := mkHid (lit_set wd.toNat ap.toNat p J K arr' hlit')
          have hold := hlit'.2 ((J : Int) * ap + K).toNat (by omega)
          obtain ⟨old, hold⟩ : ∃ old, arr'[((J : Int) * ap + K).toNat]? = some old := ⟨_, hold⟩
          clear hlit'
          go_wp2_with fail
          go_roundw
          case rel => exact ⟨K + 1, by omega, by go_num, _, rfl, by rw [off_eq J K ap (by omega)]; exact hset.out⟩
          case measure => simp [intOf] <;> omega
        · have hK' : K = wd.toNat := by omega
          subst hK'
          go_wp2_with fail
          go_roundw
          case rel => exact ⟨J + 1, by omega, by go_num, arr', rfl, lit_next _ _ _ _ _ hlit'⟩
          case measure => simp [intOf] <;> omega
    · go_wp2_with fail
      go_ret2
      have hJ' : J = s.toNat := by omega
      subst hJ'
      exact ⟨rfl, arr, rfl, hLit.out⟩
end Go.Proofs.YtbpjggljbkppaaaGreatDoor
