/-
  grating: Pattern.
-/
import Derived.Test.YtbpjggljbkppaaaFft4
namespace Go.Proofs.Ytbpjggljbkppaaa
open Go Go.RowKit Go.Proofs
def brightO (z : Cx) : Option Nat := (floatBits .mul .f64 z.1 z.1).bind fun p => (floatBits .mul .f64 z.2 z.2).bind fun q => floatBits .add .f64 p q
theorem infoFl : (Try.prog.info? 31).map (fun i => (i.zero, i.size, i.bytes)) = some (some (.float .f64 0), 1, 8) := by kernel_rfl
theorem underFl : Try.prog.underlying 22 = some (.slice 31) := by kernel_rfl
theorem makeFl (n : Nat) (w : World) (h : n ≤ 65536) : (Instr.makeSlice 22 (.int .i64 n) (.int .i64 n)).run Try.prog w = .ok (.slice (some ⟨w.heap.size, 0, none⟩) n n) (w.alloc (.cells ((List.replicate n 0).map flV).toArray 31)) := by
  obtain ⟨i0, hi, hz0, hz1, hz2⟩ := info_parts infoFl
  have := run_make w 22 31 i0 _ underFl hi hz0 .i64 .i64 n n (by omega) (by omega) (by rw [hz2]; omega) (by omega)
  rw [this, hz1]
  have e : madeCells (Value.float .f64 0).cells ((n : Int).toNat * 1) = ((List.replicate n 0).map flV).toArray := by
    show madeCells #[.float .f64 0] (n * 1) = _
    apply Array.ext
    · simp [madeCells]
    · intro i h1 h2
      simp [madeCells, flV, Nat.mod_one]
  rw [e]
  rfl
/-- The first k are told. -/
def toldL (bs : List Nat) (k : Nat) : List Nat := bs.take k ++ List.replicate (bs.length - k) 0
theorem toldL_set (bs : List Nat) (k : Nat) (h : k < bs.length) : (toldL bs k).set k (bs.getD k 0) = toldL bs (k + 1) := by
  apply List.ext_getElem
  · simp [toldL]; omega
  · intro i h1 h2
    rw [List.getElem_set]
    by_cases e : k = i
    · subst e
      have h3 : k < min (k + 1) bs.length := by omega
      simp [toldL, h, h3]
    · rw [if_neg e]
      have hi : i < bs.length := by simp [toldL] at h2; omega
      simp only [toldL, List.getElem_append, List.length_take, List.getElem_take, List.getElem_replicate]
      by_cases h3 : i < k
      · rw [dif_pos (by omega), dif_pos (by omega)]
      · rw [dif_neg (by omega), dif_neg (by omega)]
set_option maxRecDepth 100000 in
set_option maxHeartbeats 1600000 in
theorem pattern_c (a : Option Addr) (c n len : Nat) (xs res : List Cx) (bs : List Nat) (w : World) (hlen : xs.length = len) (hl2 : len = 2 ^ n) (hn1 : 1 ≤ n) (hn : n ≤ 16) (hres : forwardO n xs = some res) (hrl : res.length = len) (hbl : bs.length = len)
    (hb : ∀ i, i < len → brightO (res.getD i (0, 0)) = some (bs.getD i 0)) (h : Row w a (cxs xs)) :
    Calls Try.prog 9 #[.slice a len c] w fun e w' => ∃ g, e = .returned (.tuple #[.slice (some ⟨g, 0, none⟩) len len, .int .i64 0]) ∧
      w'.ownsRow w.heap.size 31 1 (.slice (some ⟨g, 0, none⟩) len len) len (bs.map flV) ∧ Ext w w' := by
  have hp : len ≤ 65536 := by rw [hl2]; exact Nat.pow_le_pow_right (by omega) hn
  have hp0 : 0 < len := by rw [hl2]; exact Nat.two_pow_pos n
  have hf := forward_c a c n len xs res w hlen hl2 hn1 hn hres h
  have hmk := fun w => makeFl len w hp
  replace hf := mkHid hf
  replace hlen := mkHid hlen
  replace hl2 := mkHid hl2
  replace hres := mkHid hres
  replace h := mkHid h
  replace hb := mkHid hb
  replace hrl := mkHid hrl
  replace hbl := mkHid hbl
  have hst := fun w1 : World => owns_new w1 31 ((List.replicate len 0).map flV) (by simp; omega) len (by simp) hp0
  replace hst := mkHid hst
  go_enter Try.func9, Try.ntmps9
  go_wp2_with (go_at_call 12; refine (hf.out).mono ?_; rintro e w1 ⟨g, rfl, ho, hE⟩; replace ho := mkHid ho; replace hE := mkHid hE)
  clear hmk
  go_loopw [22] (fun i wr => ∃ k : Nat, k ≤ len ∧ i = .int .i64 k ∧ wr.ownsRow w.heap.size 31 1 (.slice (some ⟨w1.heap.size, 0, none⟩) len len) len ((toldL bs k).map flV) ∧ Ext w1 wr) (fun i _ => len - (intOf i).toNat)
  case atStart =>
    refine ⟨0, Nat.zero_le _, rfl, ?_, (Ext.refl _).al _⟩
    have := ownsRow_mono (hst.out w1) hE.out.size
    rw [show toldL bs 0 = List.replicate len 0 by simp [toldL, hbl.out]]
    first | exact this | (simp only [List.map_replicate, List.toArray_replicate] at this ⊢; exact this)
  case round =>
    obtain ⟨k, hk, rfl, ho2, hE2⟩ := hrel
    by_cases hlt : k < len
    · have hcell : wr.cell? ⟨g, k, none⟩ = some (.complex .f64 (res.getD k (0, 0)).1 (res.getD k (0, 0)).2) := by
        refine hE2.cell ?_
        rw [ho.out.cellAt k (by omega)]
        have : k < res.length := by rw [hrl.out]; exact hlt
        simp [cxs, cxV, this]
      have hbk := hb.out k hlt
      have hset := toldL_set bs k (by rw [hbl.out]; exact hlt)
      generalize res.getD k (0, 0) = z at hcell hbk
      obtain ⟨z1, z2⟩ := z
      simp only [brightO, Option.bind_eq_some_iff] at hbk
      obtain ⟨p, h1, q, h2, h3⟩ := hbk
      generalize bs.getD k 0 = y at hset h3
      have r1 := fun t (w : World) => run_float_arith (P := Try.prog) w .mul t .f64 z1 z1 p h1
      have r2 := fun t (w : World) => run_float_arith (P := Try.prog) w .mul t .f64 z2 z2 q h2
      have r3 := fun t (w : World) => run_float_arith (P := Try.prog) w .add t .f64 p q y h3
      obtain ⟨hs1, hs2⟩ := ho2.stored k (flV y)
      rw [← List.map_set, hset] at hs1
      obtain ⟨old, hc0⟩ := owns_cell ho2 hlt
      have hfz := ho2.frozenAt k
      have hE3 := hE2.gr hs2 (fun k e => by cases e; exact Nat.le_refl _)
      clear h1 h2 h3 hset hs2
      replace hs1 := mkHid hs1
      replace hE3 := mkHid hE3
      replace ho2 := mkHid ho2
      replace hE2 := mkHid hE2
      go_wp2_with fail
      go_roundw
      case rel => exact ⟨k + 1, by omega, by go_num, hs1.out, hE3.out⟩
      case measure => simp [intOf] <;> omega
    · obtain rfl : k = len := by omega
      have e : toldL bs k = bs := by simp [toldL, hbl.out]; rw [← hbl.out, List.take_length]
      rw [e] at ho2
      replace e := mkHid e
      replace ho2 := mkHid ho2
      replace hE2 := mkHid hE2
      go_wp2_with fail
      go_ret2
      exact ⟨_, rfl, ho2.out, hE.out.trans hE2.out⟩
end Go.Proofs.Ytbpjggljbkppaaa
