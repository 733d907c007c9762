/-
  alive: what its closed calls come to.
-/
import Derived.Test.YtbpjggljbkppaaaFft5
import Derived.Test.YtbpjggljbkppaaaSlitsK
namespace Go.Proofs.Ytbpjggljbkppaaa
open Go Go.RowKit Go.Proofs
def aliveX : List Cx := [(oneF, 0), (0, 0), (0, 0), (0, 0), (oneF, 0), (0, 0), (0, 0), (0, 0)]
def aliveF : List Cx := [(4611686018427387904, 0), (0, 0), (4611686018427387904, 0), (0, 0), (4611686018427387904, 0), (0, 0), (4611686018427387904, 0), (0, 0)]
def aliveB : List Nat := [4616189618054758400, 0, 4616189618054758400, 0, 4616189618054758400, 0, 4616189618054758400, 0]
theorem aliveX_forward : forwardO 3 aliveX = some aliveF := by decide +kernel
theorem aliveF_bright : (List.range 8).all (fun i => brightO (aliveF.getD i (0, 0)) == some (aliveB.getD i 0)) = true := by decide +kernel
theorem aliveF_at {i : Nat} (h : i < 8) : brightO (aliveF.getD i (0, 0)) = some (aliveB.getD i 0) := by
  have := List.all_eq_true.1 aliveF_bright i (List.mem_range.2 h)
  simpa using this
theorem aliveB_clean : aliveB.any nanB = false := by decide +kernel
theorem aliveB_tops : tops aliveB 8 = [0, 2, 4, 6] := by decide +kernel
theorem lit_alive : (List.range 8).all (fun i => (if onB 1 4 2 0 i then (oneF, 0) else ((0, 0) : Cx)) == aliveX.getD i (0, 0)) = true := by decide +kernel
theorem lit_row {w : World} {arr : Array Value} (h : Lit 1 4 8 2 0 arr) : Row (w.alloc (.cells arr 41)) (some ⟨w.heap.size, 0, none⟩) (cxs aliveX) := by
  refine ⟨w.heap.size, 0, fun _ => rfl, fun j hj => ?_⟩
  have hj8 : j < 8 := hj
  simp only [World.cell?, heap_alloc_new, Nat.zero_add]
  rw [h.2 j hj8, cxs_getD _ _ hj8]
  have := List.all_eq_true.1 lit_alive j (List.mem_range.2 hj8)
  have e : (if onB 1 4 2 0 j then (oneF, 0) else ((0, 0) : Cx)) = aliveX.getD j (0, 0) := by simpa using this
  rw [← e]
  unfold litV
  cases onB 1 4 2 0 j <;> rfl
theorem four_row (w : World) (E : Nat) : Row (w.alloc (.cells #[.int .i64 0, .int .i64 2, .int .i64 4, .int .i64 6] E)) (some ⟨w.heap.size, 0, none⟩) ([0, 2, 4, 6].map inV) := by
  refine ⟨w.heap.size, 0, fun _ => rfl, fun j hj => ?_⟩
  have hj4 : j < 4 := hj
  simp only [World.cell?, heap_alloc_new, Nat.zero_add]
  match j, hj4 with
  | 0, _ => rfl
  | 1, _ => rfl
  | 2, _ => rfl
  | 3, _ => rfl
set_option maxRecDepth 100000 in
set_option maxHeartbeats 1600000 in
theorem alive_c (w : World) : Calls Try.prog 4 #[] w fun e w' => e = .returned (.bool true) ∧ Ext w w' := by
  have hs1 := fun w => slits_ok 3 2 1 4 8 w (by omega) (by omega) (by omega) (by omega) (by omega) (by omega) (by omega) (by decide +kernel) (by omega) (by omega) (by decide +kernel)
  have hs2 := fun w => slits_lim3 3 2 1 8 8 w (by omega) (by omega) (by omega) (by omega) (by omega) (by omega) (by omega) (by decide +kernel) (by omega) (by omega) (by decide +kernel)
  have hp := fun a c w (h : Row w a (cxs aliveX)) => pattern_c a c 3 8 aliveX aliveF aliveB w rfl rfl (by omega) (by omega) aliveX_forward rfl rfl (fun i hi => aliveF_at hi) h
  have hk := fun a c w (h : Row w a (aliveB.map flV)) => peaks_c a c 8 aliveB w rfl (by omega) aliveB_clean h
  rw [aliveB_tops] at hk
  replace hs1 := mkHid hs1
  replace hs2 := mkHid hs2
  replace hp := mkHid hp
  replace hk := mkHid hk
  have o1 : (FloatKind.f64.format.order 4616189618054758400 4616189618054758400 == some .eq) = true := by decide +kernel
  have o2 : (FloatKind.f64.format.order 0 0 == some .eq) = true := by decide +kernel
  go_enter Try.func4, Try.ntmps4
  go_wp2_with fail
  refine (hs1.out _).mono ?_
  rintro e w1 ⟨rfl, arr, hw1, hlit⟩
  have hE1 : Ext w w1 := by rw [hw1]; exact (Ext.refl w).al _
  have hr1 : Row w1 (some ⟨w.heap.size, 0, none⟩) (cxs aliveX) := by rw [hw1]; exact lit_row hlit
  clear hw1 hlit
  go_wp2_with fail
  refine (hp.out _ _ _ hr1).mono ?_
  rintro e w2 ⟨g, rfl, ho2, hE2⟩
  obtain ⟨a2, c2, e2, _, hr2⟩ := row_of_owns ho2
  cases e2
  have hb0 : w2.cell? ⟨g, 0, none⟩ = some (.float .f64 4616189618054758400) := by rw [ho2.cellAt 0 (by omega)]; rfl
  have hb1 : w2.cell? ⟨g, 1, none⟩ = some (.float .f64 0) := by rw [ho2.cellAt 1 (by omega)]; rfl
  go_wp2_with fail
  refine (hk.out _ _ _ hr2).mono ?_
  rintro e w3 ⟨v, rfl, ho3, hE3⟩
  obtain ⟨a3, c3, rfl, _, hr3⟩ := row_of_owns ho3
  replace hb0 := hE3.cell hb0
  replace hb1 := hE3.cell hb1
  have hE := mkHid ((hE1.trans hE2).trans hE3)
  clear ho3 ho2 hr1 hr2 hE1 hE2 hE3 hs1 hp hk
  replace hr3 := mkHid hr3
  simp only [List.length_cons, List.length_nil, Nat.zero_add]
  go_wp2_with fail
  refine (hs2.out _).mono ?_
  rintro e w4 ⟨rfl, rfl⟩
  clear hs2
  go_wp2_with (go_at_call 10; refine (sameNumbers_c _ _ _ _ [0, 2, 4, 6] _ (by decide) (hr3.out.ext ((Ext.refl _).al _)) (four_row _ _)).mono ?_; rintro e w5 ⟨rfl, hE5⟩; replace hE5 := mkHid hE5)
  go_ret
  exact ⟨rfl, hE.out.trans (((Ext.refl _).al _).trans hE5.out)⟩
end Go.Proofs.Ytbpjggljbkppaaa
