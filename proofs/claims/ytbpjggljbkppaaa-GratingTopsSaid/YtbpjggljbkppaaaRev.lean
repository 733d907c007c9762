/-
  math/bits: Reverse64, ReverseBytes64; size of fft.
-/
import Derived.Test.YtbpjggljbkppaaaUnit3
import Derived.Test.YtbpjggljbkppaaaShelf
namespace Go.Proofs.Ytbpjggljbkppaaa
open Go Go.RowKit Go.Proofs
theorem bits64_range (op : BinOp) (x y : Int) : 0 ≤ bits op .u64 x y ∧ bits op .u64 x y < 18446744073709551616 := by
  unfold bits
  simp only [IntKind.wrap_u64]
  omega
def swB (x s m : Int) : Int := bits .or .u64 (bits .and .u64 (x / s) m) (IntKind.u64.wrap (bits .and .u64 x m * s))
def revBI (x : Int) : Int := bits .or .u64 (swB (swB x 256 71777214294589695) 65536 281470681808895 / 4294967296) (IntKind.u64.wrap (swB (swB x 256 71777214294589695) 65536 281470681808895 * 4294967296))
def revI (x : Int) : Int := revBI (swB (swB (swB x 2 6148914691236517205) 4 3689348814741910323) 16 1085102592571150095)
theorem revb_c (x : Int) (_h0 : 0 ≤ x) (_hx : x < 18446744073709551616) (w : World) : Calls Try.prog 32 #[.int .u64 x] w fun e w' => e = .returned (.int .u64 (revBI x)) ∧ w = w' := by
  go_enter Try.func32, Try.ntmps32
  go_wp2_with fail
  go_ret
  exact ⟨rfl, rfl⟩
theorem rev_c (x : Nat) (_hx : x < 18446744073709551616) (w : World) : Calls Try.prog 26 #[.int .u64 x] w fun e w' => e = .returned (.int .u64 (revI x)) ∧ w = w' := by
  go_enter Try.func26, Try.ntmps26
  go_wp2_with fail
  refine (revb_c _ (bits64_range _ _ _).1 (bits64_range _ _ _).2 _).mono ?_
  rintro e w' ⟨rfl, rfl⟩
  go_wp2_with fail
  go_ret
  exact ⟨rfl, rfl⟩
theorem size_lim (n : Nat) (h0 : n ≠ 0) (hn : n ≤ 65536) (hb : bits .and .i64 n ((n : Int) - 1) = 0) (w : World) : Calls Try.prog 14 #[.int .i64 n] w fun e w' => e = .returned (.tuple #[.int .i64 ((Lib.bitLen n : Nat) - 1 : Int), .int .i64 0]) ∧ w = w' := by
  have hl : Lib.bitLen n ≤ 17 := Lib.bitLen_le n 17 (by omega) (by omega)
  have hlen := fun w => Try.bits_Len (n : Int) w (by omega) (by omega)
  rw [Int.toNat_natCast] at hlen
  replace hlen := mkHid hlen
  generalize Lib.bitLen n = L at *
  go_enter Try.func14, Try.ntmps14
  go_wp2_with (go_at_call 16; refine (hlen.out _).mono ?_; rintro e w' ⟨rfl, rfl⟩)
  go_ret2
  exact ⟨rfl, rfl⟩
end Go.Proofs.Ytbpjggljbkppaaa
