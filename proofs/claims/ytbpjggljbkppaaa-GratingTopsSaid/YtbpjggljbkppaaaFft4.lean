/-
  fft: transform, Forward; grating: Pattern.
-/
import Derived.Test.YtbpjggljbkppaaaFft3
import Derived.Test.YtbpjggljbkppaaaTopsK
namespace Go.Proofs.Ytbpjggljbkppaaa
open Go Go.RowKit Go.Proofs
def forwardO (n : Nat) (xs : List Cx) : Option (List Cx) := outerO xs.length n 1 1 (sortL n xs xs.length)
set_option maxHeartbeats 800000 in
theorem transform_c (a : Option Addr) (c n len : Nat) (xs res : List Cx) (w : World) (hlen : xs.length = len) (hl2 : len = 2 ^ n) (hn1 : 1 ≤ n) (hn : n ≤ 16) (hres : forwardO n xs = some res) (h : Row w a (cxs xs)) :
    Calls Try.prog 15 #[.slice a len c, .int .i64 n, .int .i64 (-1)] w fun e w' => ∃ g, e = .returned (.slice (some ⟨g, 0, none⟩) len len) ∧
      w'.ownsRow w.heap.size 41 1 (.slice (some ⟨g, 0, none⟩) len len) len (cxs res) ∧ Ext w w' := by
  have hp : len ≤ 65536 := by rw [hl2]; exact Nat.pow_le_pow_right (by omega) hn
  have hp0 : 0 < len := by rw [hl2]; exact Nat.two_pow_pos n
  unfold forwardO at hres
  rw [hlen] at hres
  obtain ⟨W, hW⟩ : ∃ W, W = w.alloc (.cells #[.int .i64 (-1)] 3) := ⟨_, rfl⟩
  have hE : Ext w W := by rw [hW]; exact (Ext.refl w).al _
  have hwy : W.cell? ⟨w.heap.size, 0, none⟩ = some (.int .i64 (-1)) := by rw [hW]; go_simp
  have hWs : W.heap.size = w.heap.size + 1 := by rw [hW]; simp
  have hs := sorted_c a c n len xs W hlen hp0 hp hn1 hn (h.ext hE)
  replace hs := mkHid hs
  have hst := fun w1 (ho : w1.ownsRow W.heap.size 41 1 (.slice (some ⟨W.heap.size, 0, none⟩) len len) len (cxs (sortL n xs len))) (hw : w1.cell? ⟨w.heap.size, 0, none⟩ = some (.int .i64 (-1))) =>
    steps_c w.heap.size W.heap.size W.heap.size len len n (sortL n xs len) res w1 (by rw [sortL_length, hlen]) hl2 hn (Nat.le_refl _) hp (by omega) hres hw ho
  replace hst := mkHid hst
  replace hwy := mkHid hwy
  replace hE := mkHid hE
  replace hWs := mkHid hWs
  replace hlen := mkHid hlen
  replace hl2 := mkHid hl2
  replace hres := mkHid hres
  go_enter Try.func15, Try.ntmps15
  replace hW := mkHid hW
  go_wp2_with (first
    | (go_at_call 17; rw [← hW.out]; refine (hs.out).mono ?_; rintro e w1 ⟨rfl, ho, hE1⟩; replace ho := mkHid ho; replace hE1 := mkHid hE1)
    | (go_at_call 18; refine (hst.out _ ho.out (hE1.out.cell hwy.out)).mono ?_; rintro e w2 ⟨rfl, ho2, hg⟩; replace ho2 := mkHid ho2; replace hg := mkHid hg))
  go_ret
  refine ⟨_, rfl, ownsRow_mono ho2.out (by have := hWs.out; omega), (hE.out.trans hE1.out).gr hg.out (fun k e => by cases e; have := hWs.out; omega)⟩
theorem bitLen_pow (n : Nat) (hn : n ≤ 16) : Lib.bitLen (2 ^ n) = n + 1 := by
  have : ∀ n : Fin 17, Lib.bitLen (2 ^ n.val) = n.val + 1 := by decide +kernel
  exact this ⟨n, by omega⟩
theorem pow_and (n : Nat) (hn : n ≤ 16) : bits .and .i64 ((2 ^ n : Nat) : Int) (((2 ^ n : Nat) : Int) - 1) = 0 := by
  have : ∀ n : Fin 17, bits .and .i64 ((2 ^ n.val : Nat) : Int) (((2 ^ n.val : Nat) : Int) - 1) = 0 := by decide +kernel
  exact this ⟨n, by omega⟩
theorem forward_c (a : Option Addr) (c n len : Nat) (xs res : List Cx) (w : World) (hlen : xs.length = len) (hl2 : len = 2 ^ n) (hn1 : 1 ≤ n) (hn : n ≤ 16) (hres : forwardO n xs = some res) (h : Row w a (cxs xs)) :
    Calls Try.prog 12 #[.slice a len c] w fun e w' => ∃ g, e = .returned (.tuple #[.slice (some ⟨g, 0, none⟩) len len, .int .i64 0]) ∧
      w'.ownsRow w.heap.size 41 1 (.slice (some ⟨g, 0, none⟩) len len) len (cxs res) ∧ Ext w w' := by
  have hp : len ≤ 65536 := by rw [hl2]; exact Nat.pow_le_pow_right (by omega) hn
  have hp0 : 0 < len := by rw [hl2]; exact Nat.two_pow_pos n
  have hsz := fun w => size_lim len (by omega) hp (by rw [hl2]; exact pow_and n hn) w
  rw [hl2, bitLen_pow n hn, ← hl2, show (((n + 1 : Nat)) : Int) - 1 = n by omega] at hsz
  have ht := fun w (h : Row w a (cxs xs)) => transform_c a c n len xs res w hlen hl2 hn1 hn hres h
  replace hsz := mkHid hsz
  replace ht := mkHid ht
  replace hlen := mkHid hlen
  replace hl2 := mkHid hl2
  replace hres := mkHid hres
  replace h := mkHid h
  go_enter Try.func12, Try.ntmps12
  go_wp2_with (first
    | (go_at_call 14; refine (hsz.out _).mono ?_; rintro e w' ⟨rfl, rfl⟩)
    | (go_at_call 15; refine (ht.out _ h.out).mono ?_; rintro e w2 ⟨g, rfl, ho, hE⟩; replace ho := mkHid ho; replace hE := mkHid hE))
  go_ret2
  exact ⟨g, rfl, ho.out, hE.out⟩
end Go.Proofs.Ytbpjggljbkppaaa
