/-
  GratingPeaks: for every input the law returns true, and its argument reads as it did. The card ties the row's three listed tables (of math/bits and internal/strconv) to the program's text; the proof does not look into them.
-/
import Derived.Test.YtbpjggljbkppaaaGreatDoorCards
import Derived.Test.YtbpjggljbkppaaaGreatDoorTie
import Derived.Test.YtbpjggljbkppaaaGreatDoorPeaksW
import Derived.ProofKit
import Derived.LaidMore
import Derived.OpenShut
import Derived.Stop.Joined
import Derived.Lib.SmallJoins
import Derived.SevenTiedAt
import Derived.Carry
import Derived.Deep.Slices
namespace Go.Proofs.YtbpjggljbkppaaaGreatDoor
open Go Go.ChangeShapes Go.WideShapes Go.ChangeAt Go.RowKit Go.Joins Go.Deep
theorem ownKnobNone : ownKnob Tryz.prog.godebug = none := by kernel_rfl
theorem floatCells : Tryz.prog.cellsOf 65 = 1 := by kernel_rfl
/-- The door's own heap meets the condition. -/
theorem door_met (os : Os) (args : Array Value) : laidMetH Tryz.prog Rows.gratingPeaksRow.laid ((World.doorLaid Tryz.prog 24 os).forCall (fun _ _ => 0) ⟨#[], args, []⟩).memory :=
  laidMetH_of_parts3 (fuel := 8) (laidMet_of_run' 8 (by kernel_rfl) (by kernel_rfl)) (by kernel_rfl) (by kernel_rfl)
section
variable {H : Type} {enc : TypeId × Value → H} {P : Program} {w : World} {base : Nat} {spare : Nat → Bool} {held : Bool}
theorem trod_flt {t : TypeId} {k : FloatKind} {fuel : Nat} {cs : List Value} {x : DataW H × List MemPlace} (ht : P.underlying t = some (.float k)) (h : DataW.trod enc P w base spare held fuel t cs = some x) : ∃ b, cs = [.float k b] := by
  cases fuel with
  | zero => simp [DataW.trod] at h
  | succ n =>
    simp only [DataW.trod, ht] at h
    split at h <;> simp_all
theorem open_flts {t e : TypeId} {fuel : Nat} {cs : List Value} {x : DataW H × List MemPlace} (ht : P.underlying t = some (.slice e)) (he : P.underlying e = some (.float .f64)) (hc : P.cellsOf e = 1) (h : DataW.trod enc P w base spare held fuel t cs = some x) :
    ∃ (a : Option Addr) (c : Nat) (xs : List Nat), cs = [.slice a xs.length c] ∧ Row w a (xs.map flV) ∧ xs.length ≤ maxLen := by
  rcases open_slice ht h with ⟨rfl, _⟩ | ⟨a, len, cap, m, n, D, Pl, rfl, hb, hl, hm, hmm, hx, hi⟩
  · exact ⟨none, 0, [], rfl, row_nil w, by simp⟩
  · have hlm : len ≤ m := by rw [hmm]; split <;> omega
    have hcell : ∀ i, i < len → ∃ b, w.cell? (a.add i) = some (.float .f64 b) := by
      intro i hlt
      obtain ⟨cs', h1, h2⟩ := hi i (by omega)
      obtain ⟨b, rfl⟩ := trod_flt he h2
      rw [hc] at h1
      obtain ⟨_, _, hat⟩ := World.cells?_some h1
      have := hat 0 (by omega)
      refine ⟨b, ?_⟩
      simpa [Addr.add] using this
    refine ⟨some a, cap, (List.range len).map (fun i => match w.cell? (a.add i) with | some (.float _ b) => b | _ => 0), by simp, ?_, by simp; omega⟩
    refine ⟨a.block, a.off, fun hne => ?_, fun j hj => ?_⟩
    · have h0 : 0 < len := by
        rcases Nat.eq_zero_or_pos len with h | h
        · subst h; simp at hne
        · exact h
      obtain ⟨b, hb'⟩ := hcell 0 h0
      obtain ⟨bl, of, sp⟩ := a
      have : sp = none := by simpa [Addr.add] using World.cell?_spot hb'
      subst this
      rfl
    · have hj' : j < len := by simpa using hj
      obtain ⟨b, hb'⟩ := hcell j hj'
      have hadd : a.add j = ⟨a.block, a.off + j, none⟩ := by
        obtain ⟨bl, of, sp⟩ := a
        have : sp = none ∨ j ≠ 0 := by
          rcases Nat.eq_zero_or_pos j with h | h
          · subst h
            exact .inl (by simpa [Addr.add] using World.cell?_spot hb')
          · exact .inr (by omega)
        unfold Addr.add
        split
        · rename_i h
          rcases this with h2 | h2
          · simp [h, h2]
          · exact absurd h h2
        · rfl
      rw [← hadd, hb']
      simp [hj', hb', flV]
end
set_option maxRecDepth 100000 in
theorem lifted (os : Os) (started : os.Started) (H : Type) (enc : TypeId × Value → H) :
    ReturnsInHanded {} Tryz.checked os 4 .any (fun w args => (Rows.gratingPeaksSpec.pre enc Tryz.prog Tryz.f4 [] false w args ∧ laidMetH Tryz.prog Rows.gratingPeaksRow.laid w) ∧ sizedMet enc Tryz.prog Tryz.f4 (OpenSpec.ofChange Rows.gratingPeaksSpec) false w args)
      (Rows.gratingPeaksSpec.post enc Tryz.prog Tryz.f4 false true false false) := by
  refine returnsInHanded_of_change_and (C := Tryz.checked) (X := fun w _ => laidMetH Tryz.prog Rows.gratingPeaksRow.laid w) (fun _ _ _ hh h => h.of_heap hh) ownKnobNone started (by kernel_rfl) Tryz.func4
    (ChangeSpec.witness_shaped (enc := enc) (C := Tryz.checked) (os := os) (X := fun w _ => laidMetH Tryz.prog Rows.gratingPeaksRow.laid w) false (World.doorLaid Tryz.prog 24 os) #[.slice none 0 0] 8 rfl (World.shaped_of_RefB (by kernel_rfl) (by kernel_rfl)) (by kernel_rfl) (by kernel_rfl) (by kernel_rfl) (door_met os _)) ?_
  intro W base args ds gs before hval0 hW _ _ _ _
  have hW' := hW
  obtain ⟨p, q, hA0, hV, rfl, hfz, hnd⟩ := hW
  have hA : DataW.TrodAll enc Tryz.prog W 0 (fun _ => true) true Tryz.f4.params.toList args.toList ds p := hA0
  rw [Tryz.params4] at hA
  obtain ⟨v0, d0, rfl, rfl, h0⟩ := trodAll_one hA
  obtain ⟨rfl, rfl⟩ := trodVars_none hV
  have h0' := h0
  obtain ⟨fuel, h1⟩ := h0
  obtain ⟨a, c, xs, hcs, hrow, hlx⟩ := open_flts Tryz.underlying50 Tryz.underlying65 floatCells h1
  have hv : v0 = .slice a xs.length c := by
    obtain ⟨a1, l1, c1, rfl⟩ := okWide_slice Tryz.underlying50 (hval0 0 50 v0 (by rw [Tryz.params4]; rfl) rfl)
    simpa [Value.cells] using hcs
  subst hv
  have hn : (xs.length : Int) ≤ 9223372036854775807 := by unfold maxLen at hlx; omega
  have hlt : ∀ x ∈ p, x.block < W.heap.size := fun x hx => hW'.lt x (by simpa using hx)
  clear hval0 hA0 hA h1 hcs hV
  refine (peaks_walk a c xs.length xs W rfl hn hrow).mono fun e W' h => ?_
  obtain ⟨rfl, hE⟩ := h
  refine ⟨_, rfl, _, _, _, [], p, [], hW', trodAll_mk1 (shut_bool Tryz.underlying4 _), ?_, rfl, hE.frame _, fun h => by cases h⟩
  have hb := Below.trod (by kernel_rfl) (by kernel_rfl) (of_decide_eq_true (by kernel_rfl)) h0' hE hlt
  have : Tryz.f4.params.toList = [50] := by rw [Tryz.params4]
  rw [this]
  have h2 := trodAll_mk1 hb
  first | exact h2 | (simp at h2; exact h2)
theorem gratingPeaks_row : Rows.GratingPeaksSaid :=
  OpenClaim.holds_of_wide 4 Tryz.f4 rfl rfl rfl rfl rfl rfl rfl ⟨rfl, rfl, rfl, rfl, rfl⟩ rfl rfl rfl rfl rfl (by kernel_rfl) Tryz.func4 (by kernel_rfl)
    (of_decide_eq_true (by kernel_rfl)) (by unfold Func.isWrapper; first | (rw [if_pos (by decide +kernel)]; kernel_rfl) | (rw [if_neg (by decide +kernel)]; exact ⟨rfl, rfl⟩))
    (fun os started H enc _ => lifted os started H enc)
theorem gratingPeaks_holds : Rows.GratingPeaksCardSaid :=
  Claim7.holds_tied_plain_at .later [] [.data, .data, .data] true (true, "4b6283f12cffbf44b56b0bc849734fb91d66e860f02c17b8d9848d90244888d1") false
    gratingPeaks_row (fun _ h => by cases h) (by kernel_rfl) (fun _ h => by cases h) gratingPeaks_row_tie rfl ⟨rfl, rfl⟩ (by kernel_rfl) rfl
    (fun f fn hf hfn => by
      obtain rfl : f = 4 := Option.some.inj ((show Tryz.prog.funcNamed "polestar/polestarlaw22.GratingPeaks" = some 4 by kernel_rfl).symm.trans hf) |>.symm
      obtain rfl : fn = Tryz.f4 := (Option.some.inj (Tryz.func4.symm.trans hfn)).symm
      exact ⟨by kernel_rfl, fun j t ht => by
        rw [Tryz.params4] at ht
        have hm : t ∈ [50] := by simpa using Array.mem_of_getElem? ht
        have hall : ([50].all fun u => !Tryz.prog.wantsStandIn u) = true := by kernel_rfl
        exact (show Tryz.prog.wantsStandIn t = false by simpa using List.all_eq_true.1 hall t hm)⟩)
    (by kernel_rfl)
#print axioms gratingPeaks_holds
end Go.Proofs.YtbpjggljbkppaaaGreatDoor
