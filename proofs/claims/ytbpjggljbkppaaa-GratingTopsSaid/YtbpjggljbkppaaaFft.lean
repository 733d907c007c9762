/-
  fft: sorted.
-/
import Derived.Test.YtbpjggljbkppaaaRev
namespace Go.Proofs.Ytbpjggljbkppaaa
open Go Go.RowKit Go.Proofs
/-- A world after some draws. -/
def Drw (w w' : World) : Prop := ∃ n, w' = w.drewN n
theorem Drw.refl (w : World) : Drw w w := ⟨0, (rfl : w = w.drewN 0)⟩
theorem Drw.trans {a b c : World} (h : Drw a b) (k : Drw b c) : Drw a c := by
  obtain ⟨n, rfl⟩ := h
  obtain ⟨m, rfl⟩ := k
  exact ⟨_, World.drewN_drewN ..⟩
theorem Drw.cell {w w' : World} (h : Drw w w') (a : Addr) : w'.cell? a = w.cell? a := cell_drew h a
theorem Drw.ext {w w' : World} (h : Drw w w') : Ext w w' := by
  obtain ⟨n, rfl⟩ := h
  exact (Ext.refl w).drN n
theorem Drw.heap {w w' : World} (h : Drw w w') : w'.heap = w.heap := by
  obtain ⟨n, rfl⟩ := h
  rfl
theorem region_drw {id : Nat} {l : List Oper} {a : Act} {w : World} {Q : Exit → Act → World → Prop} (specs : List FSpec) (hok : okFree specs.length a.tmps.size l = true) (hst : StableAll Drw specs)
    (h : freeSteps Try.prog l Drw w Q 0 specs l a []) : (Code.region id l.toArray true).wp Try.prog Q a w :=
  region_free Drw specs mixed hok Drw.refl (fun _ _ _ => Drw.trans) (fun _ => ⟨1, rfl⟩) (stableAll_mem hst) h
theorem ownsRow_heap {w w' : World} (h : w'.heap = w.heap) {base E sz n : Nat} {v : Value} {xs : List Value} (ho : w.ownsRow base E sz v n xs) : w'.ownsRow base E sz v n xs := by
  unfold World.ownsRow at *
  rw [h]
  exact ho
theorem owns_cell {w : World} {base E g n cap : Nat} {xs : List Value} (h : w.ownsRow base E 1 (.slice (some ⟨g, 0, none⟩) n cap) n xs) {j : Nat} (hj : j < n) : ∃ old, w.cell? ⟨g, j, none⟩ = some old := by
  have hl := h.1
  exact ⟨_, (h.cellAt j (by omega)).trans (List.getElem?_eq_getElem (by omega))⟩
/-- A row of numbers. -/
def cxs (l : List Cx) : List Value := l.map cxV
theorem cxs_set (l : List Cx) (k : Nat) (z : Cx) : (cxs l).set k (cxV z) = cxs (l.set k z) := by simp [cxs, List.map_set]
theorem cxs_length (l : List Cx) : (cxs l).length = l.length := by simp [cxs]
theorem cxs_getD (l : List Cx) (j : Nat) (h : j < l.length) : (cxs l).getD j undef = cxV (l.getD j (0, 0)) := by simp [cxs, h]
theorem cxs_ne {l : List Cx} {k : Nat} (h : k < l.length) : cxs l ≠ [] := by
  intro h0
  have := congrArg List.length h0
  rw [cxs_length] at this
  simp only [List.length_nil] at this
  omega
/-- Where an element goes. -/
def idxI (len n k : Nat) : Int := bits .and .u64 (revI k / 2 ^ (64 - n)) ((len : Int) - 1)
def sortL (n : Nat) (xs : List Cx) : Nat → List Cx
  | 0 => List.replicate xs.length (0, 0)
  | k + 1 => (sortL n xs k).set (idxI xs.length n k).toNat (xs.getD k (0, 0))
theorem sortL_length (n : Nat) (xs : List Cx) (k : Nat) : (sortL n xs k).length = xs.length := by
  induction k with
  | zero => simp [sortL]
  | succ k ih => simp [sortL, ih]
theorem infoCx : (Try.prog.info? 41).map (fun i => (i.zero, i.size, i.bytes)) = some (some (.complex .f64 0 0), 1, 16) := by kernel_rfl
theorem underCx : Try.prog.underlying 34 = some (.slice 41) := by kernel_rfl
theorem makeCx (n : Nat) (w : World) (h : n ≤ 65536) : (Instr.makeSlice 34 (.int .i64 n) (.int .i64 n)).run Try.prog w = .ok (.slice (some ⟨w.heap.size, 0, none⟩) n n) (w.alloc (.cells (cxs (List.replicate n (0, 0))).toArray 41)) := by
  obtain ⟨i0, hi, hz0, hz1, hz2⟩ := info_parts infoCx
  have := run_make w 34 41 i0 _ underCx hi hz0 .i64 .i64 n n (by omega) (by omega) (by rw [hz2]; omega) (by omega)
  rw [this, hz1]
  have e : madeCells (Value.complex .f64 0 0).cells ((n : Int).toNat * 1) = (cxs (List.replicate n (0, 0))).toArray := by
    show madeCells #[.complex .f64 0 0] (n * 1) = _
    apply Array.ext
    · simp [madeCells, cxs]
    · intro i h1 h2
      simp [madeCells, cxs, cxV, Nat.mod_one]
  rw [e]
  rfl
/-- A new block is a row of one's own. -/
theorem owns_new (w : World) (E : Nat) (xs : List Value) (hl : xs.length ≤ 1048576) (n : Nat) (hn : n = xs.length) (hb : 0 < n) : (w.alloc (.cells xs.toArray E)).ownsRow w.heap.size E 1 (.slice (some ⟨w.heap.size, 0, none⟩) n n) n xs := by
  subst hn
  refine ⟨by simp, .inr ⟨w.heap.size, xs.length, xs.toArray, rfl, Nat.le_refl _, heap_alloc_new w _, Nat.le_refl _, ?_, ?_, ?_⟩⟩
  · unfold maxLen; omega
  · simp
  · simp
theorem bits64_and_le (x : Int) (m : Nat) (hm : m < 18446744073709551616) (h0 : 0 ≤ x) (h1 : x < 18446744073709551616) : bits .and .u64 x m ≤ m := by
  obtain ⟨a, rfl⟩ := Int.eq_ofNat_of_zero_le h0
  have := (bits_nat .u64 64 (by decide) (fun n h₀ h₁ => by rw [IntKind.wrap_u64]; omega) a m (by omega) (by omega)).1
  rw [this]
  have := Nat.and_le_right (n := a) (m := m)
  omega
theorem idxI_range (len n k : Nat) (hl : 0 < len) (hl2 : len ≤ 65536) : 0 ≤ idxI len n k ∧ idxI len n k < len := by
  have h0 := bits64_range .and (revI k / 2 ^ (64 - n)) ((len : Int) - 1)
  refine ⟨h0.1, ?_⟩
  have hr := bits64_range .or (swB (swB (swB (swB (swB k 2 6148914691236517205) 4 3689348814741910323) 16 1085102592571150095) 256 71777214294589695) 65536 281470681808895 / 4294967296) (IntKind.u64.wrap (swB (swB (swB (swB (swB k 2 6148914691236517205) 4 3689348814741910323) 16 1085102592571150095) 256 71777214294589695) 65536 281470681808895 * 4294967296))
  have hr' : 0 ≤ revI k ∧ revI k < 18446744073709551616 := hr
  have hp : (0 : Int) < 2 ^ (64 - n) := Int.pow_pos (by omega)
  have d0 : 0 ≤ revI k / 2 ^ (64 - n) := Int.ediv_nonneg hr'.1 (by omega)
  have d1 : revI k / 2 ^ (64 - n) ≤ revI k := Int.ediv_le_self _ hr'.1
  have := bits64_and_le (revI k / 2 ^ (64 - n)) (len - 1) (by omega) d0 (by omega)
  unfold idxI
  have e : ((len - 1 : Nat) : Int) = (len : Int) - 1 := by omega
  rw [e] at this
  omega
set_option maxRecDepth 100000 in
set_option maxHeartbeats 1600000 in
theorem sorted_c (a : Option Addr) (c n len : Nat) (xs : List Cx) (w : World) (hlen : xs.length = len) (h0 : 0 < len) (hl : len ≤ 65536) (hn1 : 1 ≤ n) (hn : n ≤ 16) (h : Row w a (cxs xs)) :
    Calls Try.prog 17 #[.slice a len c, .int .i64 n] w fun e w' => e = .returned (.slice (some ⟨w.heap.size, 0, none⟩) len len) ∧
      w'.ownsRow w.heap.size 41 1 (.slice (some ⟨w.heap.size, 0, none⟩) len len) len (cxs (sortL n xs len)) ∧ Ext w w' := by
  obtain ⟨b, off, ha, hc⟩ := h
  have hA := ha (cxs_ne (k := 0) (by omega))
  replace hc := mkHid hc
  have hmk := makeCx len w hl
  have hst := owns_new w 41 (cxs (List.replicate len (0, 0))) (by simp [cxs]; omega) len (by simp [cxs]) h0
  rw [show List.replicate len ((0, 0) : Cx) = sortL n xs 0 by rw [← hlen]; rfl] at hst hmk
  generalize hcs : (cxs (sortL n xs 0)).toArray = cs at *
  replace hst := mkHid hst
  clear hcs ha
  subst hA
  replace hlen := mkHid hlen
  go_enter Try.func17, Try.ntmps17
  go_wp2_with fail
  clear hmk
  go_loopw [12] (fun i wr => ∃ k : Nat, k ≤ len ∧ i = .int .i64 k ∧ wr.ownsRow w.heap.size 41 1 (.slice (some ⟨w.heap.size, 0, none⟩) len len) len (cxs (sortL n xs k)) ∧ Ext w wr) (fun i _ => len - (intOf i).toNat)
  case atStart => exact ⟨0, Nat.zero_le _, rfl, hst.out, (Ext.refl w).al _⟩
  case round =>
    obtain ⟨k, hk, rfl, ho, hE⟩ := hrel
    by_cases hlt : k < len
    · have hcell : ∀ W, Drw wr W → W.cell? ⟨b, off + k, none⟩ = some (cxV (xs.getD k (0, 0))) := by
        intro W hW
        have h1 := hc.out k (by rw [cxs_length, hlen.out]; exact hlt)
        rw [cxs_getD _ _ (by rw [hlen.out]; exact hlt)] at h1
        rw [hW.cell]
        exact hE.cell h1
      obtain ⟨hi0, hi1⟩ := idxI_range len n k h0 hl
      obtain ⟨ix, hix⟩ := Int.eq_ofNat_of_zero_le hi0
      rw [hix] at hi1
      have hixl : ix < len := by omega
      obtain ⟨z, hz⟩ : ∃ z, z = xs.getD k (0, 0) := ⟨_, rfl⟩
      rw [← hz] at hcell
      rw [show cxV z = .complex .f64 z.1 z.2 from rfl] at hcell
      have hnx : sortL n xs (k + 1) = (sortL n xs k).set (idxI len n k).toNat z := by rw [hz, ← hlen.out]; rfl
      rw [hix, Int.toNat_natCast] at hnx
      unfold idxI at hix
      replace hz := mkHid hz
      replace hnx := mkHid hnx
      replace ho := mkHid ho
      replace hE := mkHid hE
      have w1 : IntKind.i64.wrap ((64 : Int) - n) = (64 : Int) - n := by rw [IntKind.wrap_i64]; omega
      have w2 : IntKind.i64.wrap ((len : Int) - 1) = (len : Int) - 1 := by rw [IntKind.wrap_i64]; omega
      have w3 : IntKind.u64.wrap ((len : Int) - 1) = (len : Int) - 1 := by rw [IntKind.wrap_u64]; omega
      have w4 : IntKind.u64.wrap (k : Int) = (k : Int) := by rw [IntKind.wrap_u64]; omega
      have hrv := fun w => rev_c k (by omega) w
      replace hrv := mkHid hrv
      go_wp2_with fail
      apply region_drw [.val _, .val _, .val _, .val (.int .u64 (revI k)), .val _, .val _, .val _, .val _, .val _, .val _, .val _, .val _, .val _, .val _, .val _, .val _, .val _] (by kernel_rfl)
        (stable_vals _ (stable_vals _ (stable_vals _ (stable_vals _ (stable_vals _ (stable_vals _ (stable_vals _ (stable_vals _ (stable_vals _ (stable_vals _ (stable_vals _ (stable_vals _ (stable_vals _ (stable_vals _ (stable_vals _ (stable_vals _ (stable_vals _ trivial)))))))))))))))))
      iterate 3 (refine ⟨fun W hW _ => by go_simp; exact ⟨Drw.refl _, rfl⟩, ?_⟩)
      refine ⟨fun W hW _ => ?g1, ?_⟩
      case g1 =>
        go_simp
        refine (hrv.out _).mono ?_
        rintro e w' ⟨rfl, rfl⟩
        exact ⟨rfl, Drw.refl _⟩
      iterate 13 (refine ⟨fun W hW _ => by go_simp; exact ⟨Drw.refl _, rfl⟩, ?_⟩)
      intro W hW _
      have ho2 := ownsRow_heap hW.heap ho.out
      have hE2 := hE.out.trans hW.ext
      obtain ⟨hs1, hs2⟩ := ho2.stored ix (cxV z)
      rw [cxs_set] at hs1
      obtain ⟨old, hc0⟩ := owns_cell ho2 hixl
      have hfz := ho2.frozenAt ix
      have hE3 := hE2.gr hs2 (fun k e => by cases e; exact Nat.le_refl _)
      replace hs1 := mkHid hs1
      replace hE3 := mkHid hE3
      clear ho2 hE2 hs2 hW
      go_wp2_with fail
      go_roundw
      case rel => exact ⟨k + 1, by omega, by go_num, by rw [hnx.out]; exact hs1.out, hE3.out⟩
      case measure => simp [intOf] <;> omega
    · obtain rfl : k = len := by omega
      replace ho := mkHid ho
      replace hE := mkHid hE
      go_wp2_with fail
      go_ret
      exact ⟨rfl, ho.out, hE.out⟩
end Go.Proofs.Ytbpjggljbkppaaa
