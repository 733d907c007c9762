/-
  GratingTops: for every input the law returns true, and its arguments read as they did. No condition.
-/
import Derived.Test.YtbpjggljbkppaaaRows
import Derived.Test.YtbpjggljbkppaaaTopsW
import Derived.ProofKit
import Derived.OpenShut
import Derived.Lib.SmallJoins
import Derived.Carry
import Derived.Deep.Slices
namespace Go.Proofs.Ytbpjggljbkppaaa
open Go Go.ChangeShapes Go.WideShapes Go.ChangeAt Go.RowKit Go.Joins Go.Deep
theorem ownKnobNone : ownKnob Try.prog.godebug = none := by kernel_rfl
theorem floatCells : Try.prog.cellsOf 31 = 1 := by kernel_rfl
section
variable {H : Type} {enc : TypeId × Value → H} {P : Program} {w : World} {base : Nat} {spare : Nat → Bool} {held : Bool}
theorem trod_flt {t : TypeId} {k : FloatKind} {fuel : Nat} {cs : List Value} {x : DataW H × List MemPlace} (ht : P.underlying t = some (.float k)) (h : DataW.trod enc P w base spare held fuel t cs = some x) : ∃ b, cs = [.float k b] := by
  cases fuel with
  | zero => simp [DataW.trod] at h
  | succ n =>
    simp only [DataW.trod, ht] at h
    split at h <;> simp_all
theorem open_flts {t e : TypeId} {fuel : Nat} {cs : List Value} {x : DataW H × List MemPlace} (ht : P.underlying t = some (.slice e)) (he : P.underlying e = some (.float .f64)) (hc : P.cellsOf e = 1) (h : DataW.trod enc P w base spare held fuel t cs = some x) :
    ∃ (a : Option Addr) (c : Nat) (xs : List Nat), cs = [.slice a xs.length c] ∧ Row w a (xs.map flV) ∧ xs.length ≤ maxLen := by
  rcases open_slice ht h with ⟨rfl, _⟩ | ⟨a, len, cap, m, n, D, Pl, rfl, hb, hl, hm, hmm, hx, hi⟩
  · exact ⟨none, 0, [], rfl, row_nil w, by simp⟩
  · have hlm : len ≤ m := by rw [hmm]; split <;> omega
    have hcell : ∀ i, i < len → ∃ b, w.cell? (a.add i) = some (.float .f64 b) := by
      intro i hlt
      obtain ⟨cs', h1, h2⟩ := hi i (by omega)
      obtain ⟨b, rfl⟩ := trod_flt he h2
      rw [hc] at h1
      obtain ⟨_, _, hat⟩ := World.cells?_some h1
      have := hat 0 (by omega)
      refine ⟨b, ?_⟩
      simpa [Addr.add] using this
    refine ⟨some a, cap, (List.range len).map (fun i => match w.cell? (a.add i) with | some (.float _ b) => b | _ => 0), by simp, ?_, by simp; omega⟩
    refine ⟨a.block, a.off, fun hne => ?_, fun j hj => ?_⟩
    · have h0 : 0 < len := by
        rcases Nat.eq_zero_or_pos len with h | h
        · subst h; simp at hne
        · exact h
      obtain ⟨b, hb'⟩ := hcell 0 h0
      obtain ⟨bl, of, sp⟩ := a
      have : sp = none := by simpa [Addr.add] using World.cell?_spot hb'
      subst this
      rfl
    · have hj' : j < len := by simpa using hj
      obtain ⟨b, hb'⟩ := hcell j hj'
      have hadd : a.add j = ⟨a.block, a.off + j, none⟩ := by
        obtain ⟨bl, of, sp⟩ := a
        have : sp = none ∨ j ≠ 0 := by
          rcases Nat.eq_zero_or_pos j with h | h
          · subst h
            exact .inl (by simpa [Addr.add] using World.cell?_spot hb')
          · exact .inr (by omega)
        unfold Addr.add
        split
        · rename_i h
          rcases this with h2 | h2
          · simp [h, h2]
          · exact absurd h h2
        · rfl
      rw [← hadd, hb']
      simp [hj', hb', flV]
end
set_option maxRecDepth 100000 in
theorem lifted (os : Os) (started : os.Started) (H : Type) (enc : TypeId × Value → H) :
    ReturnsInHanded {} Try.checked os 3 .any (Rows.gratingTopsSpec.pre6 enc Try.prog Try.f3 [] false)
      (Rows.gratingTopsSpec.post enc Try.prog Try.f3 false true false false) := by
  refine returnsInHanded_of_change (C := Try.checked) ownKnobNone started (by kernel_rfl) Try.func3
    (ChangeSpec.witness6 (enc := enc) (C := Try.checked) false ⟨#[], #[.slice none 0 0, .int .u16 0], []⟩ 8 (by kernel_rfl) (by kernel_rfl) (by kernel_rfl) (by kernel_rfl)) ?_
  intro W base args ds gs before hval0 hW _ _
  have hW' := hW
  obtain ⟨p, q, hA0, hV, rfl, hfz, hnd⟩ := hW
  have hA : DataW.TrodAll enc Try.prog W 0 (fun _ => true) true Try.f3.params.toList args.toList ds p := hA0
  rw [Try.params3] at hA
  obtain ⟨v0, v1, d0, d1, p0, p1, rfl, rfl, rfl, h0, h1⟩ := trodAll_two hA
  obtain ⟨rfl, rfl⟩ := trodVars_none hV
  have h0' := h0
  obtain ⟨fuel, hh⟩ := h0
  obtain ⟨a, c, xs, hcs, hrow, hlx⟩ := open_flts Try.underlying22 Try.underlying31 floatCells hh
  have hv : v0 = .slice a xs.length c := by
    obtain ⟨a1, l1, c1, rfl⟩ := okWide_slice Try.underlying22 (hval0 0 22 v0 (by rw [Try.params3]; rfl) rfl)
    simpa [Value.cells] using hcs
  subst hv
  obtain ⟨n1, rfl, rfl, rfl, wf1⟩ := open_int Try.underlying23 (hval0 1 23 v1 (by rw [Try.params3]; rfl) rfl) h1
  have hb1 : 0 ≤ n1 ∧ n1 < 65536 := by
    have h : IntKind.u16.min ≤ n1 ∧ n1 ≤ IntKind.u16.max := by simpa [Lit.wf] using wf1
    have e1 : IntKind.u16.min = 0 := rfl
    have e2 : IntKind.u16.max = 65535 := rfl
    omega
  obtain ⟨b, rfl⟩ := Int.eq_ofNat_of_zero_le hb1.1
  have hn : (xs.length : Int) ≤ 9223372036854775807 := by unfold maxLen at hlx; omega
  have hlt : ∀ x ∈ p0, x.block < W.heap.size := fun x hx => hW'.lt x (by simpa using hx)
  have key : Calls Try.prog 3 #[.slice a xs.length c, .int .u16 b] W fun e w' => e = .returned (.bool true) ∧ Ext W w' := by
    by_cases hbig : 1048576 < xs.length
    · exact tops_big a c xs.length b W hn hbig
    · cases hnan : xs.any nanB with
      | true => exact tops_nan a c xs.length b xs W rfl (by omega) hnan hrow
      | false => exact tops_clean a c xs.length b xs W rfl (by omega) (by omega) hnan hrow
  refine key.mono fun e W' h => ?_
  obtain ⟨rfl, hE⟩ := h
  refine ⟨_, rfl, _, _, _, [], p0 ++ [], [], hW', trodAll_mk1 (shut_bool Try.underlying4 _), ?_, rfl, hE.frame _, fun h => by cases h⟩
  have hb := Below.trod (by kernel_rfl) (by kernel_rfl) (of_decide_eq_true (by kernel_rfl)) h0' hE hlt
  have : Try.f3.params.toList = [22, 23] := by rw [Try.params3]
  rw [this]
  exact trodAll_mk2 hb (shut_int Try.underlying23 wf1)
theorem gratingTops_holds : Rows.GratingTopsSaid :=
  OpenClaim.holds_of_wide 3 Try.f3 rfl rfl rfl rfl rfl rfl rfl ⟨rfl, rfl, rfl, rfl, rfl⟩ rfl rfl rfl rfl rfl (by kernel_rfl) Try.func3 (by kernel_rfl)
    (of_decide_eq_true (by kernel_rfl)) (by unfold Func.isWrapper; first | (rw [if_pos (by decide +kernel)]; kernel_rfl) | (rw [if_neg (by decide +kernel)]; exact ⟨rfl, rfl⟩))
    (fun os started H enc _ => lifted os started H enc)
#print axioms gratingTops_holds
end Go.Proofs.Ytbpjggljbkppaaa
