/-
  Peaks: LeftFloats, Beyond.
-/
import Derived.Test.YtbpjggljbkppaaaGreatDoorPeaks4
namespace Go.Proofs.YtbpjggljbkppaaaGreatDoor
open Go Go.RowKit Go.Proofs
theorem sameFloat_self (x : Nat) (w : World) : Calls Tryz.prog 71 #[.float .f64 x, .float .f64 x] w fun e w' => e = .returned (.bool true) ∧ w' = w :=
  (sameFloat_c x x w).mono fun _ _ h => ⟨by rw [h.1]; simp [sameF_self], h.2.symm⟩
set_option maxHeartbeats 800000 in
theorem leftFloats_c (g : Nat) (a : Option Addr) (c n : Nat) (xs : List Nat) (w : World) (hlen : xs.length = n) (hl : n ≤ 1048576) (h : Row w (some ⟨g, 0, none⟩) (xs.map flV ++ [spareV])) (h' : Row w a (xs.map flV)) :
    Calls Tryz.prog 15 #[.slice (some ⟨g, 0, none⟩) n (n + 1), .slice a n c] w fun e w' => e = .returned (.bool true) ∧ Ext w w' := by
  obtain ⟨b', off', ha', hc'⟩ := h'
  have hT : ∀ k, k < n → w.cell? ⟨g, k, none⟩ = some (.float .f64 (xs.getD k 0)) := by
    obtain ⟨b, off, ha, hc⟩ := h
    have e := ha (by simp)
    simp only [Option.some.injEq, Addr.mk.injEq, and_true] at e
    obtain ⟨rfl, rfl⟩ := e
    intro k hk
    have := hc k (by simp; omega)
    rw [Nat.zero_add] at this
    rw [this]
    simp [flV, List.getElem?_append_left, hlen, hk]
  have hS : w.cell? ⟨g, n, none⟩ = some (.float .f64 4665272916630306816) := by
    obtain ⟨b, off, ha, hc⟩ := h
    have e := ha (by simp)
    simp only [Option.some.injEq, Addr.mk.injEq, and_true] at e
    obtain ⟨rfl, rfl⟩ := e
    have := hc n (by simp; omega)
    rw [Nat.zero_add] at this
    rw [this]
    simp [spareV, hlen]
  clear h
  have hsp : (FloatKind.f64.format.order 4665272916630306816 4665272916630306816 == some Ordering.eq) = true := by kernel_rfl
  replace ha' := mkHid ha'
  replace hc' := mkHid hc'
  replace hT := mkHid hT
  replace hS := mkHid hS
  replace hlen := mkHid hlen
  go_enter Tryz.func15, Tryz.ntmps15
  go_wp2_with fail
  go_loopw [5] (fun i wr => ∃ k : Nat, k ≤ n ∧ i = .int .i64 k ∧ ∃ n, wr = w.drewN n) (fun i _ => n - (intOf i).toNat)
  case atStart => exact ⟨0, Nat.zero_le _, rfl, 0, rfl⟩
  case round =>
    obtain ⟨k, hk, rfl, hd⟩ := hrel
    by_cases hlt : k < n
    · have hl0 := hlen.out
      have h1 := hT.out k hlt
      have h2 := (hc'.out k (by simp; omega)).trans (by rw [flV_get (by omega)])
      have hA := ha'.out (flV_ne (k := k) (by omega))
      clear hl0
      rw [hA]
      replace hA := mkHid hA
      replace h1 : wr.cell? _ = _ := (cell_drew hd _).trans h1
      replace h2 : wr.cell? _ = _ := (cell_drew hd _).trans h2
      obtain ⟨x, hx⟩ : ∃ x, x = xs.getD k 0 := ⟨_, rfl⟩
      rw [← hx] at h1 h2
      replace hx := mkHid hx
      replace hd := mkHid hd
      go_wp2_with fail
      go_quiet ((go_at_call 71; exact Calls.quiet_of_same (sameFloat_self _ _)))
      go_wp2_with fail
      go_roundw
      case rel => exact ⟨k + 1, by omega, by go_num, drew_more hd.out _⟩
      case measure => simp [intOf] <;> omega
    · obtain rfl : n = k := by omega
      have h1 : wr.cell? _ = _ := (cell_drew hd _).trans hS.out
      replace hd := mkHid hd
      go_wp2_with fail
      go_ret
      obtain ⟨m, rfl⟩ := hd.out
      exact ⟨by simp, (Ext.refl w).drN m⟩
theorem beyond1_c (b n : Nat) (w : World) (hn : (n : Int) ≤ 9223372036854775807) (h : w.cell? ⟨b, 0, none⟩ = some (.int .i64 n)) :
    Calls Tryz.prog 10 #[.slice (some ⟨b, 0, none⟩) 1 1] w fun e w' => e = .returned (.bool (decide (1048576 < n))) ∧ w = w' := by
  go_enter Tryz.func10, Tryz.ntmps10
  go_wp2_with fail
  go_loopw [4, 3] (fun i s wr => (i = .int .i64 0 ∧ s = .int .i64 0 ∨ i = .int .i64 1 ∧ s = .int .i64 n ∧ n ≤ 1048576) ∧ w = wr) (fun i _ _ => 1 - (intOf i).toNat)
  case atStart => exact ⟨.inl ⟨rfl, rfl⟩, rfl⟩
  case round =>
    obtain ⟨h0, rfl⟩ := hrel
    rcases h0 with ⟨rfl, rfl⟩ | ⟨rfl, rfl, hle⟩
    · by_cases hgt : 1048576 < n
      · go_wp2_with fail
        go_ret
        exact ⟨by simp [hgt], rfl⟩
      · go_wp2_with fail
        go_roundw
        case rel => exact ⟨.inr ⟨rfl, rfl, by omega⟩, trivial⟩
        case measure => simp [intOf]
    · go_wp2_with fail
      go_ret
      exact ⟨by simp; omega, rfl⟩
end Go.Proofs.YtbpjggljbkppaaaGreatDoor
