/-
  fft: what transform does with two elements.
-/
import Derived.Test.YtbpjggljbkppaaaFft
import Derived.Deep.RegionHeld3
import Derived.Deep.DrawnRows
namespace Go.Proofs.Ytbpjggljbkppaaa
open Go Go.RowKit Go.Proofs
attribute [local go_sem ↓] Go.wp_at_zero Go.wp_at_succ
def bflyO (part round : Nat) (za zb : Cx) : Option (Cx × Cx) :=
  (unitO (-(part : Int)) round).bind fun u => (mulO u zb).bind fun t => (addO za t).bind fun p => (subO za t).bind fun q => some (p, q)
set_option maxRecDepth 100000 in
set_option maxHeartbeats 1600000 in
theorem bfly_c (wy base g n cap i j part round : Nat) (l : List Cx) (za zb p q : Cx) (w : World) (hl : l.length = n) (hi : i < n) (hj : j < n) (hij : i ≠ j) (hp : part ≤ 65536) (hr : round ≤ 16)
    (hza : l.getD i (0, 0) = za) (hzb : l.getD j (0, 0) = zb) (hb : bflyO part round za zb = some (p, q))
    (hwy : w.cell? ⟨wy, 0, none⟩ = some (.int .i64 (-1))) (ho : w.ownsRow base 41 1 (.slice (some ⟨g, 0, none⟩) n cap) n (cxs l)) :
    Calls Try.prog 19 #[.int .i64 part, .int .i64 round, .pointer (some ⟨g, i, none⟩), .pointer (some ⟨g, j, none⟩), .pointer (some ⟨wy, 0, none⟩)] w fun e w' =>
      e = .returned (.bool true) ∧ w'.ownsRow base 41 1 (.slice (some ⟨g, 0, none⟩) n cap) n (cxs ((l.set i p).set j q)) ∧ w.grownBy w' (some g) := by
  simp only [bflyO, Option.bind_eq_some_iff, Option.some.injEq, Prod.mk.injEq] at hb
  obtain ⟨u, hu, t, ht, p', hp', q', hq', rfl, rfl⟩ := hb
  have cu := fun w => unit_c (-(part : Int)) round hr u hu w
  have ct := fun w => cmul_c u zb t ht w
  have cp : ∀ w, Calls Try.prog 22 #[.complex .f64 za.1 za.2, cxV t] w fun e w' => e = .returned (.complex .f64 p'.1 p'.2) ∧ w = w' := fun w => cadd_c za t p' hp' w
  have cq : ∀ w, Calls Try.prog 23 #[.complex .f64 za.1 za.2, cxV t] w fun e w' => e = .returned (.complex .f64 q'.1 q'.2) ∧ w = w' := fun w => csub_c za t q' hq' w
  have ca : w.cell? ⟨g, i, none⟩ = some (.complex .f64 za.1 za.2) := by
    rw [ho.cellAt i (by omega), ← hza]
    simp [cxs, cxV, hl, hi]
  have cb : w.cell? ⟨g, j, none⟩ = some (.complex .f64 zb.1 zb.2) := by
    rw [ho.cellAt j (by omega), ← hzb]
    simp [cxs, cxV, hl, hj]
  clear hu ht hp' hq' hza hzb
  replace cu := mkHid cu
  replace ct := mkHid ct
  replace cp := mkHid cp
  replace cq := mkHid cq
  replace hl := mkHid hl
  replace ho := mkHid ho
  have hji : j ≠ i := fun e => hij e.symm
  have ca0 := mkHid ca
  have cb0 := mkHid cb
  go_enter Try.func19, Try.ntmps19
  go_wp2_with (first
    | (go_at_call 20; refine (cu.out _).mono ?_; rintro e w1 ⟨rfl, hE1⟩; have ca1 := hE1.cell ca0.out; have cb1 := hE1.cell cb0.out; replace hE1 := mkHid hE1)
    | (go_at_call 21; refine (ct.out _).mono ?_; rintro e w' ⟨rfl, rfl⟩))
  have hoW := ownsRow_ext ho.out hE1.out
  have hgW : w.grownBy w1.drew (some g) := ⟨hE1.out.dr.os, hE1.out.dr.tape, hE1.out.dr.output, hE1.out.dr.size, fun k hk _ => hE1.out.dr.block k hk⟩
  have fa := hoW.frozenAt i
  have fb := hoW.frozenAt j
  have hod : w1.drew.ownsRow base 41 1 (.slice (some ⟨g, 0, none⟩) n cap) n (cxs l) := ownsRow_heap rfl hoW
  obtain ⟨hs1, hg1⟩ := hod.stored i (cxV p')
  obtain ⟨hs2, hg2⟩ := hs1.stored j (cxV q')
  rw [cxs_set, cxs_set] at hs2
  have hfin := mkHid ((hgW.trans hg1).trans hg2)
  replace hs2 := mkHid hs2
  clear hg1 hg2 hs1 hgW hoW hod
  go_region_with
    (first
      | (go_at_call 22; refine (cp.out _).mono ?_; rintro e w' ⟨rfl, rfl⟩)
      | (go_at_call 23; refine (cq.out _).mono ?_; rintro e w' ⟨rfl, rfl⟩))
  all_goals go_wp2_with fail
  all_goals go_ret
  all_goals exact ⟨rfl, hs2.out, hfin.out⟩
end Go.Proofs.Ytbpjggljbkppaaa
