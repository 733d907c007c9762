/-
  The Book: Apart, where limbs alone are kept; a Book of limbs, list by list. A row's load under a guard that wants it. No program. A load of a part of a row, by a law: no program. The Book: Int, Frac, Element, Part. A part's twin in a Book: its four lists are marked, lengthened and looked at. law01: SameFrac, SameElement, SamePart of whatever limbs: printed by tools/gen_samel.py. A region's load of a whole row, by the row's law: no program. (The walk's own load of 16 cells costs the kernel 14 s and 2 GB.) As Free, but an operation of the front may look at a slot that the tail writes: printed by tools/gen_freet.py.
-/
import Derived.Test.YtplhndmncjoghaaGreatDoorMAI
import Derived.Test.YtplhndmncjoghaaGreatDoorMAB
import Derived.Test.YtplhndmncjoghaaGreatDoorMAH
import Derived.Test.YtplhndmncjoghaaGreatDoorMAA
namespace Go.Proofs.YtplhndmncjoghaaGreatDoor
set_option maxRecDepth 100000
open Go Go.RowKit Go.Proofs
/-- All kinds but one are empty. -/
def Nils (bk j : Nat) (w : World) : Prop := ∀ i, i ≠ 0 → i ≠ j → i ≤ 16 → w.cell? ⟨bk, i, none⟩ = some (.slice none 0 0)
theorem Nils.chg {bk j : Nat} {w w' : World} {S : Nat → Prop} (h : Nils bk j w) (c : Chg w w' S) (hs : ¬ S bk) : Nils bk j w' := fun i h0 h1 h2 => c.cell (h i h0 h1 h2) hs
set_option maxHeartbeats 6400000 in
set_option maxRecDepth 100000 in
theorem apart_limb (bk hb cap base : Nat) (es : List Ent) (w : World) (h : w.cell? ⟨bk, 1, none⟩ = some (.slice (some ⟨hb, 0, none⟩) es.length cap)) (h2 : es.length ≤ 1000000)
   (hN : Nils bk 1 w) (hH : Holds w hb es) (hL : Lists base 137 w es) (hD : Distinct es) (hb1 : ¬ Blocks es bk) (hb2 : ¬ Blocks es hb) (hb3 : bk ≠ hb) (hb4 : hb < w.heap.size) (hbs : base ≤ w.heap.size)
   (hn : ∀ i (h : i < es.length), es[i].n ≤ 1000000 ∧ es[i].len ≤ 1000000000) :
   Calls Tryz.prog 14 #[.pointer (some ⟨bk, 0, none⟩)] w fun e w' => e = .returned (.bool true) ∧ Chg w w' (fun g => Blocks es g ∨ g = hb) := by
  have Z0 : ∀ i, (i ≠ 0 ∧ i ≠ 1) → i ≤ 16 → w.cell? ⟨bk, i, none⟩ = some (.slice none 0 0) := fun i h => hN i h.1 h.2
  have HF := fillLimb_c bk hb cap base es w h h2 hH hL hD hb1 hb2 (fun i hi => ⟨(hn i hi).1, by have := (hn i hi).2; omega⟩)
  have HG := fun w1 (hfi : FillI base 137 mkLimb w w1 es es.length) => growLimb_c bk hb cap base es w1 (hfi.1.cell h hb1) h2 (hH.chg hfi.1 hb2) hfi.2.1 hD hb1 hb2 hb3 (Nat.lt_of_lt_of_le hb4 hfi.1.size) (Nat.le_trans hbs hfi.1.size) (fun i hi => ⟨(hn i hi).1, (hn i hi).2⟩)
  have HK := fun w1 w2 (hfi : FillI base 137 mkLimb w w1 es es.length) (hgi : GrowI base 137 mkLimb w1 w2 hb es es.length) => lookLimb_c bk hb cap base es w1 w2 (hgi.1.cell (hfi.1.cell h hb1) (fun e => e.elim hb1 hb3)) h2 hgi.look hn
  replace HF := mkHid HF
  replace HG := mkHid HG
  replace HK := mkHid HK
  replace hb1 := mkHid hb1
  replace hb3 := mkHid hb3
  replace Z0 := mkHid Z0
  clear hH hL hD hb2 hn hN h
  go_enter Tryz.func14, Tryz.ntmps14
  go_wp2_with (first
    | (go_at_call 42; refine HF.out.mono ?_; rintro e w1 ⟨rfl, hfi⟩; have Z1 : Hid (∀ i, (i ≠ 0 ∧ i ≠ 1) → i ≤ 16 → w1.cell? ⟨bk, i, none⟩ = some (.slice none 0 0)) := mkHid (fun i a b => hfi.1.cell (Z0.out i a b) hb1.out); replace hfi := mkHid hfi)
    | (go_at_call 58; refine (HG.out _ hfi.out).mono ?_; rintro e w2 ⟨rfl, hgi⟩; have Z2 : Hid (∀ i, (i ≠ 0 ∧ i ≠ 1) → i ≤ 16 → w2.cell? ⟨bk, i, none⟩ = some (.slice none 0 0)) := mkHid (fun i a b => hgi.1.cell (Z1.out i a b) (fun e => e.elim hb1.out hb3.out)); replace hgi := mkHid hgi)
    | (go_at_call 74; refine (HK.out _ _ hfi.out hgi.out).mono ?_; rintro e w3 ⟨rfl, hE⟩; have Z3 : Hid (∀ i, (i ≠ 0 ∧ i ≠ 1) → i ≤ 16 → w3.cell? ⟨bk, i, none⟩ = some (.slice none 0 0)) := mkHid (fun i a b => hE.cell (Z2.out i a b)); replace hE := mkHid hE)
    | (go_at_call 45; refine (fillComplex_e bk _ (by first | exact Z0.out _ (by decide) (by decide) | exact Z1.out _ (by decide) (by decide) | exact Z2.out _ (by decide) (by decide) | exact Z3.out _ (by decide) (by decide))).mono ?_; rintro e w' ⟨rfl, rfl⟩)
    | (go_at_call 43; refine (fillNumber_e bk _ (by first | exact Z0.out _ (by decide) (by decide) | exact Z1.out _ (by decide) (by decide) | exact Z2.out _ (by decide) (by decide) | exact Z3.out _ (by decide) (by decide))).mono ?_; rintro e w' ⟨rfl, rfl⟩)
    | (go_at_call 44; refine (fillFloat_e bk _ (by first | exact Z0.out _ (by decide) (by decide) | exact Z1.out _ (by decide) (by decide) | exact Z2.out _ (by decide) (by decide) | exact Z3.out _ (by decide) (by decide))).mono ?_; rintro e w' ⟨rfl, rfl⟩)
    | (go_at_call 46; refine (fillText_e bk _ (by first | exact Z0.out _ (by decide) (by decide) | exact Z1.out _ (by decide) (by decide) | exact Z2.out _ (by decide) (by decide) | exact Z3.out _ (by decide) (by decide))).mono ?_; rintro e w' ⟨rfl, rfl⟩)
    | (go_at_call 47; refine (fillFrac_e bk _ (by first | exact Z0.out _ (by decide) (by decide) | exact Z1.out _ (by decide) (by decide) | exact Z2.out _ (by decide) (by decide) | exact Z3.out _ (by decide) (by decide))).mono ?_; rintro e w' ⟨rfl, rfl⟩)
    | (go_at_call 48; refine (fillGauss_e bk _ (by first | exact Z0.out _ (by decide) (by decide) | exact Z1.out _ (by decide) (by decide) | exact Z2.out _ (by decide) (by decide) | exact Z3.out _ (by decide) (by decide))).mono ?_; rintro e w' ⟨rfl, rfl⟩)
    | (go_at_call 49; refine (fillRay_e bk _ (by first | exact Z0.out _ (by decide) (by decide) | exact Z1.out _ (by decide) (by decide) | exact Z2.out _ (by decide) (by decide) | exact Z3.out _ (by decide) (by decide))).mono ?_; rintro e w' ⟨rfl, rfl⟩)
    | (go_at_call 50; refine (fillElement_e bk _ (by first | exact Z0.out _ (by decide) (by decide) | exact Z1.out _ (by decide) (by decide) | exact Z2.out _ (by decide) (by decide) | exact Z3.out _ (by decide) (by decide))).mono ?_; rintro e w' ⟨rfl, rfl⟩)
    | (go_at_call 51; refine (fillCoat_e bk _ (by first | exact Z0.out _ (by decide) (by decide) | exact Z1.out _ (by decide) (by decide) | exact Z2.out _ (by decide) (by decide) | exact Z3.out _ (by decide) (by decide))).mono ?_; rintro e w' ⟨rfl, rfl⟩)
    | (go_at_call 52; refine (fillDisc_e bk _ (by first | exact Z0.out _ (by decide) (by decide) | exact Z1.out _ (by decide) (by decide) | exact Z2.out _ (by decide) (by decide) | exact Z3.out _ (by decide) (by decide))).mono ?_; rintro e w' ⟨rfl, rfl⟩)
    | (go_at_call 53; refine (fillPart_e bk _ (by first | exact Z0.out _ (by decide) (by decide) | exact Z1.out _ (by decide) (by decide) | exact Z2.out _ (by decide) (by decide) | exact Z3.out _ (by decide) (by decide))).mono ?_; rintro e w' ⟨rfl, rfl⟩)
    | (go_at_call 54; refine (fillDef_e bk _ (by first | exact Z0.out _ (by decide) (by decide) | exact Z1.out _ (by decide) (by decide) | exact Z2.out _ (by decide) (by decide) | exact Z3.out _ (by decide) (by decide))).mono ?_; rintro e w' ⟨rfl, rfl⟩)
    | (go_at_call 55; refine (fillItem_e bk _ (by first | exact Z0.out _ (by decide) (by decide) | exact Z1.out _ (by decide) (by decide) | exact Z2.out _ (by decide) (by decide) | exact Z3.out _ (by decide) (by decide))).mono ?_; rintro e w' ⟨rfl, rfl⟩)
    | (go_at_call 56; refine (fillAct_e bk _ (by first | exact Z0.out _ (by decide) (by decide) | exact Z1.out _ (by decide) (by decide) | exact Z2.out _ (by decide) (by decide) | exact Z3.out _ (by decide) (by decide))).mono ?_; rintro e w' ⟨rfl, rfl⟩)
    | (go_at_call 57; refine (fillReply_e bk _ (by first | exact Z0.out _ (by decide) (by decide) | exact Z1.out _ (by decide) (by decide) | exact Z2.out _ (by decide) (by decide) | exact Z3.out _ (by decide) (by decide))).mono ?_; rintro e w' ⟨rfl, rfl⟩)
    | (go_at_call 61; refine (growComplex_e bk _ (by first | exact Z0.out _ (by decide) (by decide) | exact Z1.out _ (by decide) (by decide) | exact Z2.out _ (by decide) (by decide) | exact Z3.out _ (by decide) (by decide))).mono ?_; rintro e w' ⟨rfl, rfl⟩)
    | (go_at_call 59; refine (growNumber_e bk _ (by first | exact Z0.out _ (by decide) (by decide) | exact Z1.out _ (by decide) (by decide) | exact Z2.out _ (by decide) (by decide) | exact Z3.out _ (by decide) (by decide))).mono ?_; rintro e w' ⟨rfl, rfl⟩)
    | (go_at_call 60; refine (growFloat_e bk _ (by first | exact Z0.out _ (by decide) (by decide) | exact Z1.out _ (by decide) (by decide) | exact Z2.out _ (by decide) (by decide) | exact Z3.out _ (by decide) (by decide))).mono ?_; rintro e w' ⟨rfl, rfl⟩)
    | (go_at_call 62; refine (growText_e bk _ (by first | exact Z0.out _ (by decide) (by decide) | exact Z1.out _ (by decide) (by decide) | exact Z2.out _ (by decide) (by decide) | exact Z3.out _ (by decide) (by decide))).mono ?_; rintro e w' ⟨rfl, rfl⟩)
    | (go_at_call 63; refine (growFrac_e bk _ (by first | exact Z0.out _ (by decide) (by decide) | exact Z1.out _ (by decide) (by decide) | exact Z2.out _ (by decide) (by decide) | exact Z3.out _ (by decide) (by decide))).mono ?_; rintro e w' ⟨rfl, rfl⟩)
    | (go_at_call 64; refine (growGauss_e bk _ (by first | exact Z0.out _ (by decide) (by decide) | exact Z1.out _ (by decide) (by decide) | exact Z2.out _ (by decide) (by decide) | exact Z3.out _ (by decide) (by decide))).mono ?_; rintro e w' ⟨rfl, rfl⟩)
    | (go_at_call 65; refine (growRay_e bk _ (by first | exact Z0.out _ (by decide) (by decide) | exact Z1.out _ (by decide) (by decide) | exact Z2.out _ (by decide) (by decide) | exact Z3.out _ (by decide) (by decide))).mono ?_; rintro e w' ⟨rfl, rfl⟩)
    | (go_at_call 66; refine (growElement_e bk _ (by first | exact Z0.out _ (by decide) (by decide) | exact Z1.out _ (by decide) (by decide) | exact Z2.out _ (by decide) (by decide) | exact Z3.out _ (by decide) (by decide))).mono ?_; rintro e w' ⟨rfl, rfl⟩)
    | (go_at_call 67; refine (growCoat_e bk _ (by first | exact Z0.out _ (by decide) (by decide) | exact Z1.out _ (by decide) (by decide) | exact Z2.out _ (by decide) (by decide) | exact Z3.out _ (by decide) (by decide))).mono ?_; rintro e w' ⟨rfl, rfl⟩)
    | (go_at_call 68; refine (growDisc_e bk _ (by first | exact Z0.out _ (by decide) (by decide) | exact Z1.out _ (by decide) (by decide) | exact Z2.out _ (by decide) (by decide) | exact Z3.out _ (by decide) (by decide))).mono ?_; rintro e w' ⟨rfl, rfl⟩)
    | (go_at_call 69; refine (growPart_e bk _ (by first | exact Z0.out _ (by decide) (by decide) | exact Z1.out _ (by decide) (by decide) | exact Z2.out _ (by decide) (by decide) | exact Z3.out _ (by decide) (by decide))).mono ?_; rintro e w' ⟨rfl, rfl⟩)
    | (go_at_call 70; refine (growDef_e bk _ (by first | exact Z0.out _ (by decide) (by decide) | exact Z1.out _ (by decide) (by decide) | exact Z2.out _ (by decide) (by decide) | exact Z3.out _ (by decide) (by decide))).mono ?_; rintro e w' ⟨rfl, rfl⟩)
    | (go_at_call 71; refine (growItem_e bk _ (by first | exact Z0.out _ (by decide) (by decide) | exact Z1.out _ (by decide) (by decide) | exact Z2.out _ (by decide) (by decide) | exact Z3.out _ (by decide) (by decide))).mono ?_; rintro e w' ⟨rfl, rfl⟩)
    | (go_at_call 72; refine (growAct_e bk _ (by first | exact Z0.out _ (by decide) (by decide) | exact Z1.out _ (by decide) (by decide) | exact Z2.out _ (by decide) (by decide) | exact Z3.out _ (by decide) (by decide))).mono ?_; rintro e w' ⟨rfl, rfl⟩)
    | (go_at_call 73; refine (growReply_e bk _ (by first | exact Z0.out _ (by decide) (by decide) | exact Z1.out _ (by decide) (by decide) | exact Z2.out _ (by decide) (by decide) | exact Z3.out _ (by decide) (by decide))).mono ?_; rintro e w' ⟨rfl, rfl⟩)
    | (go_at_call 77; refine (lookComplex_e bk _ (by first | exact Z0.out _ (by decide) (by decide) | exact Z1.out _ (by decide) (by decide) | exact Z2.out _ (by decide) (by decide) | exact Z3.out _ (by decide) (by decide))).mono ?_; rintro e w' ⟨rfl, rfl⟩)
    | (go_at_call 75; refine (lookNumber_e bk _ (by first | exact Z0.out _ (by decide) (by decide) | exact Z1.out _ (by decide) (by decide) | exact Z2.out _ (by decide) (by decide) | exact Z3.out _ (by decide) (by decide))).mono ?_; rintro e w' ⟨rfl, rfl⟩)
    | (go_at_call 76; refine (lookFloat_e bk _ (by first | exact Z0.out _ (by decide) (by decide) | exact Z1.out _ (by decide) (by decide) | exact Z2.out _ (by decide) (by decide) | exact Z3.out _ (by decide) (by decide))).mono ?_; rintro e w' ⟨rfl, rfl⟩)
    | (go_at_call 78; refine (lookText_e bk _ (by first | exact Z0.out _ (by decide) (by decide) | exact Z1.out _ (by decide) (by decide) | exact Z2.out _ (by decide) (by decide) | exact Z3.out _ (by decide) (by decide))).mono ?_; rintro e w' ⟨rfl, rfl⟩)
    | (go_at_call 79; refine (lookFrac_e bk _ (by first | exact Z0.out _ (by decide) (by decide) | exact Z1.out _ (by decide) (by decide) | exact Z2.out _ (by decide) (by decide) | exact Z3.out _ (by decide) (by decide))).mono ?_; rintro e w' ⟨rfl, rfl⟩)
    | (go_at_call 80; refine (lookGauss_e bk _ (by first | exact Z0.out _ (by decide) (by decide) | exact Z1.out _ (by decide) (by decide) | exact Z2.out _ (by decide) (by decide) | exact Z3.out _ (by decide) (by decide))).mono ?_; rintro e w' ⟨rfl, rfl⟩)
    | (go_at_call 81; refine (lookRay_e bk _ (by first | exact Z0.out _ (by decide) (by decide) | exact Z1.out _ (by decide) (by decide) | exact Z2.out _ (by decide) (by decide) | exact Z3.out _ (by decide) (by decide))).mono ?_; rintro e w' ⟨rfl, rfl⟩)
    | (go_at_call 82; refine (lookElement_e bk _ (by first | exact Z0.out _ (by decide) (by decide) | exact Z1.out _ (by decide) (by decide) | exact Z2.out _ (by decide) (by decide) | exact Z3.out _ (by decide) (by decide))).mono ?_; rintro e w' ⟨rfl, rfl⟩)
    | (go_at_call 83; refine (lookCoat_e bk _ (by first | exact Z0.out _ (by decide) (by decide) | exact Z1.out _ (by decide) (by decide) | exact Z2.out _ (by decide) (by decide) | exact Z3.out _ (by decide) (by decide))).mono ?_; rintro e w' ⟨rfl, rfl⟩)
    | (go_at_call 84; refine (lookDisc_e bk _ (by first | exact Z0.out _ (by decide) (by decide) | exact Z1.out _ (by decide) (by decide) | exact Z2.out _ (by decide) (by decide) | exact Z3.out _ (by decide) (by decide))).mono ?_; rintro e w' ⟨rfl, rfl⟩)
    | (go_at_call 85; refine (lookPart_e bk _ (by first | exact Z0.out _ (by decide) (by decide) | exact Z1.out _ (by decide) (by decide) | exact Z2.out _ (by decide) (by decide) | exact Z3.out _ (by decide) (by decide))).mono ?_; rintro e w' ⟨rfl, rfl⟩)
    | (go_at_call 86; refine (lookDef_e bk _ (by first | exact Z0.out _ (by decide) (by decide) | exact Z1.out _ (by decide) (by decide) | exact Z2.out _ (by decide) (by decide) | exact Z3.out _ (by decide) (by decide))).mono ?_; rintro e w' ⟨rfl, rfl⟩)
    | (go_at_call 87; refine (lookItem_e bk _ (by first | exact Z0.out _ (by decide) (by decide) | exact Z1.out _ (by decide) (by decide) | exact Z2.out _ (by decide) (by decide) | exact Z3.out _ (by decide) (by decide))).mono ?_; rintro e w' ⟨rfl, rfl⟩)
    | (go_at_call 88; refine (lookAct_e bk _ (by first | exact Z0.out _ (by decide) (by decide) | exact Z1.out _ (by decide) (by decide) | exact Z2.out _ (by decide) (by decide) | exact Z3.out _ (by decide) (by decide))).mono ?_; rintro e w' ⟨rfl, rfl⟩)
    | (go_at_call 89; refine (lookReply_e bk _ (by first | exact Z0.out _ (by decide) (by decide) | exact Z1.out _ (by decide) (by decide) | exact Z2.out _ (by decide) (by decide) | exact Z3.out _ (by decide) (by decide))).mono ?_; rintro e w' ⟨rfl, rfl⟩))
  go_ret
  exact ⟨rfl, ((hfi.out.1.mono fun g _ h => .inl h).trans hgi.out.1).trans (Chg.of_ext hE.out _)⟩
/-- A new Book's cells. -/
def bookCells : Array Value := #[.int .i64 0, .slice none 0 0, .slice none 0 0, .slice none 0 0, .slice none 0 0, .slice none 0 0, .slice none 0 0, .slice none 0 0, .slice none 0 0, .slice none 0 0, .slice none 0 0, .slice none 0 0, .slice none 0 0, .slice none 0 0, .slice none 0 0, .slice none 0 0, .slice none 0 0]
/-- A Book of limbs that has begun in W0: what it holds now. -/
structure BookS (W0 : World) (bk base : Nat) (es : List Ent) (w : World) : Prop where
  b : bk < W0.heap.size ∧ base ≤ W0.heap.size
  n : w.cell? ⟨bk, 0, none⟩ = some (.int .i64 (es.length : Nat))
  l : ∃ sa sc, w.cell? ⟨bk, 1, none⟩ = some (.slice sa es.length sc) ∧ Own3 base 136 w (.slice sa es.length sc) es ∧ ∀ g, (Value.slice sa es.length sc).ownBlock = some g → W0.heap.size ≤ g
  f : ∀ i, w.frozen? ⟨bk, i, none⟩ = false
  z : Nils bk 1 w
  c : Chg W0 w (fun g => g = bk)
theorem BookS.start {W0 : World} {bk base T : Nat} (h : W0.heap[bk]? = some (.cells bookCells T)) (hb : base ≤ W0.heap.size) : BookS W0 bk base [] W0 := by
  have hc : ∀ i, i ≠ 0 → i ≤ 16 → W0.cell? ⟨bk, i, none⟩ = some (.slice none 0 0) := by
    intro i h0 h1
    rw [cell_of_row _ _ i bookCells T (0, 0) h]
    have : i = 1 ∨ i = 2 ∨ i = 3 ∨ i = 4 ∨ i = 5 ∨ i = 6 ∨ i = 7 ∨ i = 8 ∨ i = 9 ∨ i = 10 ∨ i = 11 ∨ i = 12 ∨ i = 13 ∨ i = 14 ∨ i = 15 ∨ i = 16 := by omega
    rcases this with rfl | rfl | rfl | rfl | rfl | rfl | rfl | rfl | rfl | rfl | rfl | rfl | rfl | rfl | rfl | rfl <;> rfl
  refine ⟨⟨(Array.getElem?_eq_some_iff.1 h).1, hb⟩, ?_, ⟨none, 0, hc 1 (by decide) (by decide), World.ownsRow_nil _ _ _ _, fun g hg => by cases hg⟩, fun i => frozen_of_row _ _ i bookCells T h, fun i h0 _ h2 => hc i h0 h2, Chg.refl _ _⟩
  rw [cell_of_row _ _ 0 bookCells T (0, 0) h]
  rfl
theorem BookS.ext {W0 w w' : World} {bk base : Nat} {es : List Ent} (h : BookS W0 bk base es w) (e : Ext w w') : BookS W0 bk base es w' := by
  obtain ⟨hb, hn, ⟨sa, sc, h1, h2, h3⟩, hf, hz, hc⟩ := h
  have cc := Chg.of_ext e (fun _ => False)
  have hlt : bk < w.heap.size := Nat.lt_of_lt_of_le hb.1 hc.size
  refine ⟨hb, e.cell hn, ⟨sa, sc, e.cell h1, cc.row h2 (fun _ _ h => h), h3⟩, fun i => ?_, hz.chg cc (fun h => h), hc.trans (Chg.of_ext e _)⟩
  rw [World.frozen?_of_block (e.block bk hlt)]
  exact hf i
theorem BookS.step {W0 w w' : World} {bk base : Nat} {es : List Ent} {e : Ent} {sa : Option Addr} {sc : Nat} (h : BookS W0 bk base es w) (h3 : ∀ g, (Value.slice sa es.length sc).ownBlock = some g → W0.heap.size ≤ g) (he : e.n = es.length + 1)
    (k : Kept bk 1 base 136 w (.slice sa es.length sc) es e w') : BookS W0 bk base (es ++ [e]) w' := by
  obtain ⟨sa', sc', c1, z0, z1, f1, r1, p1, q1⟩ := k
  have hlen : (es ++ [e]).length = es.length + 1 := by simp
  refine ⟨h.b, by rw [z0, hlen, he], ⟨sa', sc', by rw [hlen]; exact z1, by rw [hlen]; exact p1, fun g hg => ?_⟩, f1, fun i h0 h1 h2 => by rw [r1 i h0 h1]; exact h.z i h0 h1 h2, ?_⟩
  · rw [hlen] at hg
    rcases q1 with q | ⟨b, q, q2⟩
    · exact h3 g (q.symm.trans hg)
    · have hgb : some b = some g := q.symm.trans hg
      cases hgb
      exact Nat.le_trans h.c.size q2
  · refine ⟨c1.os.trans h.c.os, c1.tape.trans h.c.tape, c1.output.trans h.c.output, Nat.le_trans h.c.size c1.size, fun i hi hn => ?_⟩
    refine (c1.block i (Nat.lt_of_lt_of_le hi h.c.size) ?_).trans (h.c.block i hi hn)
    rintro (x | x)
    · exact hn x
    · have := h3 i x.symm
      omega
/-- A block that is neither the Book's own nor its list's. -/
def Safe (bk : Nat) (w : World) (k : Nat) : Prop := k ≠ bk ∧ ∀ a n c, w.cell? ⟨bk, 1, none⟩ = some (.slice a n c) → (Value.slice a n c).ownBlock ≠ some k
/-- All such blocks are as they were. -/
structure Kp (bk : Nat) (w w' : World) : Prop where
  size : w.heap.size ≤ w'.heap.size
  keep : ∀ k, k < w.heap.size → Safe bk w k → w'.heap[k]? = w.heap[k]? ∧ Safe bk w' k
theorem Kp.trans {bk : Nat} {a b c : World} (h : Kp bk a b) (k : Kp bk b c) : Kp bk a c :=
  ⟨Nat.le_trans h.size k.size, fun i hi hs => by
    obtain ⟨h1, h2⟩ := h.keep i hi hs
    obtain ⟨k1, k2⟩ := k.keep i (Nat.lt_of_lt_of_le hi h.size) h2
    exact ⟨k1.trans h1, k2⟩⟩
theorem Kp.of_ext {bk : Nat} {w w' : World} (hb : bk < w.heap.size) (e : Ext w w') : Kp bk w w' :=
  ⟨e.size, fun k hk hs => ⟨e.block k hk, hs.1, fun a n c h => hs.2 a n c ((World.cell?_of_block (e.block bk hb)).symm.trans h)⟩⟩
theorem Kp.blk {bk k : Nat} {w w' : World} {o : Obj} (h : Kp bk w w') (hk : w.heap[k]? = some o) (hs : Safe bk w k) : w'.heap[k]? = some o := (h.keep k (Array.getElem?_eq_some_iff.1 hk).1 hs).1.trans hk
theorem BookS.safe {W0 w W : World} {bk base : Nat} {es : List Ent} (h : BookS W0 bk base es w) (e : Ext w W) {k : Nat} (hk : w.heap.size ≤ k) : Safe bk W k := by
  obtain ⟨sa, sc, h1, h2, h3⟩ := h.l
  have hlt : bk < w.heap.size := Nat.lt_of_lt_of_le h.b.1 h.c.size
  refine ⟨by omega, fun a n c hc hg => ?_⟩
  rw [e.cell h1] at hc
  cases hc
  have := (h2.lt k hg).2
  omega
theorem kp_of_kept {bk base T n : Nat} {w w' : World} {sa : Option Addr} {sc : Nat} {es : List Ent} {e : Ent} (h1 : w.cell? ⟨bk, 1, none⟩ = some (.slice sa n sc)) (hn : n = es.length) (k : Kept bk 1 base T w (.slice sa es.length sc) es e w') : Kp bk w w' := by
  subst hn
  obtain ⟨sa', sc', c1, z0, z1, f1, r1, p1, q1⟩ := k
  refine ⟨c1.size, fun k hk hs => ⟨c1.block k hk ?_, hs.1, fun a n c hc hg => ?_⟩⟩
  · rintro (x | x)
    · exact hs.1 x
    · exact hs.2 _ _ _ h1 x.symm
  · rw [z1] at hc
    cases hc
    rcases q1 with q | ⟨b, q, q2⟩
    · exact hs.2 _ _ _ h1 (q.symm.trans hg)
    · have hbk : some b = some k := q.symm.trans hg
      cases hbk
      omega
/-- One list more. -/
theorem keep_s (W0 : World) (bk base : Nat) (la : Option Addr) (len lc : Nat) (es : List Ent) (w : World) (h : BookS W0 bk base es w) (hes : es.length ≤ 1000) :
    Calls Tryz.prog 246 #[.pointer (some ⟨bk, 0, none⟩), .slice la len lc] w fun e w' => e = .returned (.tuple #[]) ∧ BookS W0 bk base (es ++ [Ent.mk (.slice la len lc) (es.length + 1) len]) w' ∧ Kp bk w w' := by
  obtain ⟨sa, sc, h1, h2, h3⟩ := h.l
  refine (keepLimb_c bk base sa sc la len lc es es.length w (by omega) (by omega) h.n h1 h.f h2 (fun e => ?_) (Nat.le_trans h.b.2 h.c.size)).mono fun e w' k => ⟨k.1, h.step h3 rfl k.2, kp_of_kept h1 rfl k.2⟩
  have := h3 bk e.symm
  have := h.b.1
  omega
/-- All are marked, lengthened and looked at. -/
theorem apart_s (W0 : World) (bk base : Nat) (es : List Ent) (w : World) (h : BookS W0 bk base es w) (hne : es ≠ []) (hes : es.length ≤ 1000) (hL : Lists base 137 W0 es) (hD : Distinct es) (hb : ∀ g, Blocks es g → g ≠ bk ∧ g < W0.heap.size)
    (hn : ∀ i (h : i < es.length), es[i].n ≤ 1000000 ∧ es[i].len ≤ 1000000000) :
    Calls Tryz.prog 14 #[.pointer (some ⟨bk, 0, none⟩)] w fun e w' => e = .returned (.bool true) ∧ Chg W0 w' (fun g => Blocks es g ∨ g = bk) := by
  obtain ⟨sa, sc, h1, h2, h3⟩ := h.l
  obtain ⟨hb', cap, e2, hh, hb2, hb3⟩ := h2.holds hne
  rw [e2] at h1 h3
  have hge := h3 hb' rfl
  have hlt := h.b.1
  refine (apart_limb bk hb' cap base es w h1 (by omega) h.z hh (fun i hi => ?_) hD (fun x => (hb _ x).1 rfl) (fun x => by have := (hb _ x).2; omega) (by omega) hb3 (Nat.le_trans h.b.2 h.c.size) hn).mono fun e w' k => ⟨k.1, ?_⟩
  · obtain ⟨xs, hx⟩ := hL i hi
    exact ⟨xs, h.c.row hx fun g hg => (hb g ⟨i, hi, hg⟩).1⟩
  · refine ⟨k.2.os.trans h.c.os, k.2.tape.trans h.c.tape, k.2.output.trans h.c.output, Nat.le_trans h.c.size k.2.size, fun i hi hx => ?_⟩
    refine (k.2.block i (Nat.lt_of_lt_of_le hi h.c.size) ?_).trans (h.c.block i hi fun x => hx (.inr x))
    rintro (x | x)
    · exact hx (.inl x)
    · omega
end Go.Proofs.YtplhndmncjoghaaGreatDoor
namespace Go.Proofs.YtplhndmncjoghaaGreatDoor
set_option maxRecDepth 100000
open Go Go.RowKit Go.Proofs
theorem wpList_load_rowG {P : Program} {ops : Array Oper} {rest : List Oper} {o : Oper} {a : Act} {w : World} {Q : Exit → Act → World → Prop} (hw : Region.wanted o (yielded ops a.tmps) = true) (ty : TypeId) (x : Operand) (ho : o.op = .load ty x)
    (g : Nat) (hx : a.eval x = .pointer (some ⟨g, 0, none⟩)) (t : TypeId) (cs : Array Value) (fr : Nat × Nat) (d : TypeDesc) (hg : w.heap[g]? = some (.cells cs t fr))
    (hu : P.underlying ty = some d) (hd : (match d with | .struct _ | .array _ _ => true | _ => false) = true) (hi : (P.info? ty).map (·.size) = some cs.size)
    (h : wpList P ops Q rest (a.put o.dst (.agg cs)) w) : wpList P ops Q (o :: rest) a w := by
  simp only [wpList]
  rw [if_pos hw]
  exact .inl (wp_load_row ty x ho g hx t cs fr d hg hu hd hi h)
end Go.Proofs.YtplhndmncjoghaaGreatDoor
namespace Go.Proofs.YtplhndmncjoghaaGreatDoor
set_option maxRecDepth 100000
open Go Go.RowKit Go.Proofs
theorem run_loadVar_sub {P : Program} (w : World) (g o : Nat) (t ty : TypeId) (cs sub : Array Value) (fr : Nat × Nat) (d : TypeDesc) (hg : w.heap[g]? = some (.cells cs t fr)) (hs : cs.extract o (o + sub.size) = sub)
    (hu : P.underlying ty = some d) (hd : (match d with | .struct _ | .array _ _ => true | _ => false) = true) (hi : (P.info? ty).map (·.size) = some sub.size) :
    (loadVar ty ⟨g, o, none⟩).run P w = .ok (.agg sub) w := by
  have hl : (loadCells ⟨g, o, none⟩ sub.toList.length).run P w = .ok sub.toList.toArray w :=
    run_loadCells_list (P := P) w ⟨g, o, none⟩ sub.toList (fun j v hv => by
      have hadd : (⟨g, o, none⟩ : Addr).add j = ⟨g, o + j, none⟩ := by unfold Addr.add; split <;> simp_all
      rw [hadd, cell_of_row w g (o + j) cs t fr hg]
      have hv2 : sub[j]? = some v := by simpa using hv
      rw [← hs, Array.getElem?_extract] at hv2
      split at hv2
      · exact hv2
      · cases hv2)
  cases hq : P.info? ty with
  | none => simp [hq] at hi
  | some i =>
    have hs : i.size = sub.size := by simpa [hq] using hi
    have hagg : (isAgg ty).run P w = .ok true w := by
      unfold isAgg
      rw [Sem.run_bind, run_underlying hu w]
      cases d <;> simp_all
    simp only [Array.length_toList, Array.toArray_toList] at hl
    simp [loadVar, Sem.run_bind, hagg, sizeOf, typeInfo, hq, hs, hl]
theorem wp_load_sub {P : Program} {o : Oper} {a : Act} {w : World} {K : Act → World → Prop} {Q : Exit → Act → World → Prop} (ty : TypeId) (x : Operand) (ho : o.op = .load ty x)
    (g k : Nat) (hx : a.eval x = .pointer (some ⟨g, k, none⟩)) (t : TypeId) (cs sub : Array Value) (fr : Nat × Nat) (d : TypeDesc) (hg : w.heap[g]? = some (.cells cs t fr)) (hs : cs.extract k (k + sub.size) = sub)
    (hu : P.underlying ty = some d) (hd : (match d with | .struct _ | .array _ _ => true | _ => false) = true) (hi : (P.info? ty).map (·.size) = some sub.size)
    (h : K (a.put o.dst (.agg sub)) w) : o.wp P a w K Q := by
  unfold Oper.wp execOp
  simp only [ho, hx, Instr.loadAt, Instr.sureAddr, Sem.run_bind, Sem.run_pure, Result.andThen_ok, run_loadVar_sub w g k t ty cs sub fr d hg hs hu hd hi]
  exact h
theorem wpList_load_sub {P : Program} {ops : Array Oper} {rest : List Oper} {o : Oper} {a : Act} {w : World} {Q : Exit → Act → World → Prop} (hgd : o.guard = none) (ty : TypeId) (x : Operand) (ho : o.op = .load ty x)
    (g k : Nat) (hx : a.eval x = .pointer (some ⟨g, k, none⟩)) (t : TypeId) (cs sub : Array Value) (fr : Nat × Nat) (d : TypeDesc) (hg : w.heap[g]? = some (.cells cs t fr)) (hs : cs.extract k (k + sub.size) = sub)
    (hu : P.underlying ty = some d) (hd : (match d with | .struct _ | .array _ _ => true | _ => false) = true) (hi : (P.info? ty).map (·.size) = some sub.size)
    (h : wpList P ops Q rest (a.put o.dst (.agg sub)) w) : wpList P ops Q (o :: rest) a w :=
  wpList_plain hgd fun _ hK => wp_load_sub ty x ho g k hx t cs sub fr d hg hs hu hd hi (hK _ _ h)
theorem wpList_load_subG {P : Program} {ops : Array Oper} {rest : List Oper} {o : Oper} {a : Act} {w : World} {Q : Exit → Act → World → Prop} (hw : Region.wanted o (yielded ops a.tmps) = true) (ty : TypeId) (x : Operand) (ho : o.op = .load ty x)
    (g k : Nat) (hx : a.eval x = .pointer (some ⟨g, k, none⟩)) (t : TypeId) (cs sub : Array Value) (fr : Nat × Nat) (d : TypeDesc) (hg : w.heap[g]? = some (.cells cs t fr)) (hs : cs.extract k (k + sub.size) = sub)
    (hu : P.underlying ty = some d) (hd : (match d with | .struct _ | .array _ _ => true | _ => false) = true) (hi : (P.info? ty).map (·.size) = some sub.size)
    (h : wpList P ops Q rest (a.put o.dst (.agg sub)) w) : wpList P ops Q (o :: rest) a w := by
  simp only [wpList]
  rw [if_pos hw]
  exact .inl (wp_load_sub ty x ho g k hx t cs sub fr d hg hs hu hd hi h)
theorem fr_load_sub {P : Program} {S : World → Value → Prop} {o : Oper} {a : Act} {W : World} {X : Prop} {c : Prop} {ic : Decidable c} (hw : c) (ty : TypeId) (x : Operand) (ho : o.op = .load ty x)
    (g k : Nat) (hx : a.eval x = .pointer (some ⟨g, k, none⟩)) (t : TypeId) (cs sub : Array Value) (fr : Nat × Nat) (d : TypeDesc) (hg : W.heap[g]? = some (.cells cs t fr)) (hs : cs.extract k (k + sub.size) = sub)
    (hu : P.underlying ty = some d) (hd : (match d with | .struct _ | .array _ _ => true | _ => false) = true) (hi : (P.info? ty).map (·.size) = some sub.size)
    (h : S W (.agg sub)) : if c then givesV P S ((execOp a.eval o).run P W) else X := by
  rw [if_pos hw]
  unfold execOp
  simp only [ho, hx, Instr.loadAt, Instr.sureAddr, Sem.run_bind, Sem.run_pure, Result.andThen_ok, run_loadVar_sub W g k t ty cs sub fr d hg hs hu hd hi]
  exact h
end Go.Proofs.YtplhndmncjoghaaGreatDoor
namespace Go.Proofs.YtplhndmncjoghaaGreatDoor
set_option maxRecDepth 100000
open Go Go.RowKit Go.Proofs
theorem row_cell {w : World} {g T : Nat} {c : Array Value} (h : w.heap[g]? = some (.cells c T (0, 0))) (k : Nat) {v : Value} (hv : c[k]? = some v) : w.cell? ⟨g, k, none⟩ = some v := by
  rw [← hv]
  simp [World.cell?, h]
set_option maxRecDepth 100000 in
set_option maxHeartbeats 3200000 in
theorem bInt_s (W0 : World) (bk base : Nat) (b : Bool) (la : Option Addr) (len lc : Nat) (es : List Ent) (w : World) (h : BookS W0 bk base es w) (hes : es.length ≤ 1000) :
    Calls Tryz.prog 200 #[.pointer (some ⟨bk, 0, none⟩), .agg #[.bool b, .slice la len lc]] w fun e w' => e = .returned (.tuple #[]) ∧ BookS W0 bk base (es ++ [Ent.mk (.slice la len lc) (es.length + 1) len]) w' ∧ Kp bk w w' := by
  have hlt : bk < w.heap.size := Nat.lt_of_lt_of_le h.b.1 h.c.size
  have K := mkHid (fun W (e : Ext w W) => keep_s W0 bk base la len lc es W (h.ext e) hes)
  replace h := mkHid h
  replace hlt := mkHid hlt
  go_enter Tryz.func200, Tryz.ntmps200
  go_wp2_with (go_at_call 246; refine (K.out _ ((Ext.refl _).al _)).mono ?_; rintro e w' ⟨rfl, h1, h2⟩; replace h1 := mkHid h1; replace h2 := mkHid ((Kp.of_ext hlt.out ((Ext.refl _).al _)).trans h2))
  go_end0
  exact ⟨rfl, h1.out, h2.out⟩
/-- A fraction's lists. -/
def entsF (n : Nat) (a1 : Option Addr) (n1 c1 : Nat) (a2 : Option Addr) (n2 c2 : Nat) : List Ent := [Ent.mk (.slice a1 n1 c1) (n + 1) n1, Ent.mk (.slice a2 n2 c2) (n + 2) n2]
set_option maxRecDepth 100000 in
set_option maxHeartbeats 3200000 in
theorem bFrac_s (W0 : World) (bk base : Nat) (b1 : Bool) (a1 : Option Addr) (n1 c1 : Nat) (b2 : Bool) (a2 : Option Addr) (n2 c2 : Nat) (es : List Ent) (w : World) (h : BookS W0 bk base es w) (hes : es.length ≤ 900) :
    Calls Tryz.prog 122 #[.pointer (some ⟨bk, 0, none⟩), .agg #[.bool b1, .slice a1 n1 c1, .bool b2, .slice a2 n2 c2]] w fun e w' => e = .returned (.tuple #[]) ∧ BookS W0 bk base (es ++ entsF es.length a1 n1 c1 a2 n2 c2) w' ∧ Kp bk w w' := by
  have hlt : bk < w.heap.size := Nat.lt_of_lt_of_le h.b.1 h.c.size
  have K1 := mkHid (fun W (e : Ext w W) => bInt_s W0 bk base b1 a1 n1 c1 es W (h.ext e) (by omega))
  have K2 := mkHid (fun W (x : BookS W0 bk base (es ++ [Ent.mk (.slice a1 n1 c1) (es.length + 1) n1]) W) => bInt_s W0 bk base b2 a2 n2 c2 _ W x (by simp; omega))
  obtain ⟨w1, hw1⟩ : ∃ w1, w1 = w.alloc (.cells #[.bool b1, .slice a1 n1 c1, .bool b2, .slice a2 n2 c2] 27) := ⟨_, rfl⟩
  have hE1 : Ext w w1 := by rw [hw1]; exact (Ext.refl _).al _
  have z1 : w1.heap[w.heap.size]? = some (.cells #[.bool b1, .slice a1 n1 c1, .bool b2, .slice a2 n2 c2] 27 (0, 0)) := by rw [hw1]; exact heap_alloc_new _ _
  have sf : Safe bk w1 w.heap.size := h.safe hE1 (Nat.le_refl _)
  replace hE1 := mkHid hE1
  go_enter Tryz.func122, Tryz.ntmps122
  go_wp2_with fail
  rw [← hw1]
  clear hw1
  go_wp2_with (go_at_call 200; refine (K1.out _ hE1.out).mono ?_; rintro e w2 ⟨rfl, s1, k1⟩; (have z2 := k1.blk z1 sf); (have y2 := row_cell z2 2 rfl); (have y3 := row_cell z2 3 rfl); replace s1 := mkHid s1; replace k1 := mkHid k1; clear z1 z2)
  go_wp2_with (go_at_call 200; refine (K2.out _ s1.out).mono ?_; rintro e w3 ⟨rfl, s2, k2⟩; replace s2 := mkHid s2; replace k2 := mkHid k2)
  go_end0
  exact ⟨rfl, by simpa [entsF] using s2.out, ((Kp.of_ext hlt hE1.out).trans k1.out).trans k2.out⟩
/-- An element's lists. -/
def entsE (n : Nat) (a1 : Option Addr) (n1 c1 : Nat) (a2 : Option Addr) (n2 c2 : Nat) (a3 : Option Addr) (n3 c3 : Nat) (a4 : Option Addr) (n4 c4 : Nat) : List Ent := entsF n a1 n1 c1 a2 n2 c2 ++ entsF (n + 2) a3 n3 c3 a4 n4 c4
set_option maxHeartbeats 3200000 in
theorem bElement_s (W0 : World) (bk base : Nat) (kd : Int) (b1 : Bool) (a1 : Option Addr) (n1 c1 : Nat) (b2 : Bool) (a2 : Option Addr) (n2 c2 : Nat) (b3 : Bool) (a3 : Option Addr) (n3 c3 : Nat) (b4 : Bool) (a4 : Option Addr) (n4 c4 : Nat) (es : List Ent) (w : World) (h : BookS W0 bk base es w) (hes : es.length ≤ 800) :
    Calls Tryz.prog 41 #[.pointer (some ⟨bk, 0, none⟩), .agg #[.int .u8 kd, .bool b1, .slice a1 n1 c1, .bool b2, .slice a2 n2 c2, .bool b3, .slice a3 n3 c3, .bool b4, .slice a4 n4 c4]] w fun e w' => e = .returned (.tuple #[]) ∧ BookS W0 bk base (es ++ entsE es.length a1 n1 c1 a2 n2 c2 a3 n3 c3 a4 n4 c4) w' ∧ Kp bk w w' := by
  have hlt : bk < w.heap.size := Nat.lt_of_lt_of_le h.b.1 h.c.size
  have K1 := mkHid (fun W (e : Ext w W) => bFrac_s W0 bk base b1 a1 n1 c1 b2 a2 n2 c2 es W (h.ext e) (by omega))
  have K2 := mkHid (fun W (x : BookS W0 bk base (es ++ entsF es.length a1 n1 c1 a2 n2 c2) W) => bFrac_s W0 bk base b3 a3 n3 c3 b4 a4 n4 c4 _ W x (by simp [entsF]; omega))
  obtain ⟨w1, hw1⟩ : ∃ w1, w1 = w.alloc (.cells #[.int .u8 kd, .bool b1, .slice a1 n1 c1, .bool b2, .slice a2 n2 c2, .bool b3, .slice a3 n3 c3, .bool b4, .slice a4 n4 c4] 29) := ⟨_, rfl⟩
  have hE1 : Ext w w1 := by rw [hw1]; exact (Ext.refl _).al _
  have z1 : w1.heap[w.heap.size]? = some (.cells #[.int .u8 kd, .bool b1, .slice a1 n1 c1, .bool b2, .slice a2 n2 c2, .bool b3, .slice a3 n3 c3, .bool b4, .slice a4 n4 c4] 29 (0, 0)) := by rw [hw1]; exact heap_alloc_new _ _
  have sf := mkHid (h.safe hE1 (Nat.le_refl _))
  replace hE1 := mkHid hE1
  replace z1 := mkHid z1
  replace hw1 := mkHid hw1
  replace hlt := mkHid hlt
  obtain ⟨lim, hlim⟩ : ∃ l, l = es ++ entsE es.length a1 n1 c1 a2 n2 c2 a3 n3 c3 a4 n4 c4 := ⟨_, rfl⟩
  rw [← hlim]
  replace hlim := mkHid hlim
  clear h hes
  have tok : True := trivial
  go_enter Tryz.func41, Tryz.ntmps41
  go_wp2_with (first
    | (rw [← hw1.out]; refine wpList_load_sub rfl 27 (.tmp 5) rfl w.heap.size 1 rfl 29 #[.int .u8 kd, .bool b1, .slice a1 n1 c1, .bool b2, .slice a2 n2 c2, .bool b3, .slice a3 n3 c3, .bool b4, .slice a4 n4 c4] #[.bool b1, .slice a1 n1 c1, .bool b2, .slice a2 n2 c2] (0, 0) _ z1.out rfl Tryz.underlying27 rfl (by kernel_rfl) ?_)
    | (go_at_call 122; have _t := tok; clear tok; refine (K1.out _ hE1.out).mono ?_; rintro e w2 ⟨rfl, s1, k1⟩; (have z2 := mkHid (k1.blk z1.out sf.out)); replace s1 := mkHid s1; replace k1 := mkHid k1)
    | (refine wpList_load_sub rfl 27 (.tmp 9) rfl w.heap.size 5 rfl 29 #[.int .u8 kd, .bool b1, .slice a1 n1 c1, .bool b2, .slice a2 n2 c2, .bool b3, .slice a3 n3 c3, .bool b4, .slice a4 n4 c4] #[.bool b3, .slice a3 n3 c3, .bool b4, .slice a4 n4 c4] (0, 0) _ z2.out rfl Tryz.underlying27 rfl (by kernel_rfl) ?_)
    | (go_at_call 122; refine (K2.out _ s1.out).mono ?_; rintro e w3 ⟨rfl, s2, k2⟩; replace s2 := mkHid s2; replace k2 := mkHid k2))
  go_end0
  refine ⟨rfl, ?_, ((Kp.of_ext hlt.out hE1.out).trans k1.out).trans k2.out⟩
  rw [hlim.out]
  have := s2.out
  rw [List.append_assoc] at this
  simpa only [entsE, entsF, List.length_append, List.length_cons, List.length_nil, Nat.reduceAdd] using this
set_option maxHeartbeats 3200000 in
theorem bPart_s (W0 : World) (bk base : Nat) (nm : ByteArray) (co : Int) (kd : Int) (b1 : Bool) (a1 : Option Addr) (n1 c1 : Nat) (b2 : Bool) (a2 : Option Addr) (n2 c2 : Nat) (b3 : Bool) (a3 : Option Addr) (n3 c3 : Nat) (b4 : Bool) (a4 : Option Addr) (n4 c4 : Nat) (es : List Ent) (w : World) (h : BookS W0 bk base es w) (hes : es.length ≤ 800) :
    Calls Tryz.prog 13 #[.pointer (some ⟨bk, 0, none⟩), .agg #[.string nm, .int .u8 kd, .bool b1, .slice a1 n1 c1, .bool b2, .slice a2 n2 c2, .bool b3, .slice a3 n3 c3, .bool b4, .slice a4 n4 c4, .int .i64 co]] w fun e w' => e = .returned (.tuple #[]) ∧ BookS W0 bk base (es ++ entsE es.length a1 n1 c1 a2 n2 c2 a3 n3 c3 a4 n4 c4) w' ∧ Kp bk w w' := by
  have hlt : bk < w.heap.size := Nat.lt_of_lt_of_le h.b.1 h.c.size
  have K1 := mkHid (fun W (e : Ext w W) => bElement_s W0 bk base kd b1 a1 n1 c1 b2 a2 n2 c2 b3 a3 n3 c3 b4 a4 n4 c4 es W (h.ext e) (by omega))
  obtain ⟨w1, hw1⟩ : ∃ w1, w1 = w.alloc (.cells #[.string nm, .int .u8 kd, .bool b1, .slice a1 n1 c1, .bool b2, .slice a2 n2 c2, .bool b3, .slice a3 n3 c3, .bool b4, .slice a4 n4 c4, .int .i64 co] 31) := ⟨_, rfl⟩
  have hE1 : Ext w w1 := by rw [hw1]; exact (Ext.refl _).al _
  have z1 : w1.heap[w.heap.size]? = some (.cells #[.string nm, .int .u8 kd, .bool b1, .slice a1 n1 c1, .bool b2, .slice a2 n2 c2, .bool b3, .slice a3 n3 c3, .bool b4, .slice a4 n4 c4, .int .i64 co] 31 (0, 0)) := by rw [hw1]; exact heap_alloc_new _ _
  replace hE1 := mkHid hE1
  replace z1 := mkHid z1
  replace hw1 := mkHid hw1
  replace hlt := mkHid hlt
  generalize es ++ entsE es.length a1 n1 c1 a2 n2 c2 a3 n3 c3 a4 n4 c4 = lim at *
  clear h hes
  go_enter Tryz.func13, Tryz.ntmps13
  go_wp2_with (first
    | (rw [← hw1.out]; refine wpList_load_sub rfl 29 (.tmp 5) rfl w.heap.size 1 rfl 31 #[.string nm, .int .u8 kd, .bool b1, .slice a1 n1 c1, .bool b2, .slice a2 n2 c2, .bool b3, .slice a3 n3 c3, .bool b4, .slice a4 n4 c4, .int .i64 co] #[.int .u8 kd, .bool b1, .slice a1 n1 c1, .bool b2, .slice a2 n2 c2, .bool b3, .slice a3 n3 c3, .bool b4, .slice a4 n4 c4] (0, 0) _ z1.out rfl Tryz.underlying29 rfl (by kernel_rfl) ?_)
    | (go_at_call 41; refine (K1.out _ hE1.out).mono ?_; rintro e w2 ⟨rfl, s1, k1⟩; replace s1 := mkHid s1; replace k1 := mkHid k1))
  go_end0
  exact ⟨rfl, s1.out, (Kp.of_ext hlt.out hE1.out).trans k1.out⟩
end Go.Proofs.YtplhndmncjoghaaGreatDoor
namespace Go.Proofs.YtplhndmncjoghaaGreatDoor
set_option maxRecDepth 100000
open Go Go.RowKit Go.Proofs
/-- The four lists of a twin. -/
def ents4 (g1 n1 g2 n2 g3 n3 g4 n4 : Nat) : List Ent := [Ent.mk (.slice (some ⟨g1, 0, none⟩) n1 (n1 + 1)) 1 n1, Ent.mk (.slice (some ⟨g2, 0, none⟩) n2 (n2 + 1)) 2 n2, Ent.mk (.slice (some ⟨g3, 0, none⟩) n3 (n3 + 1)) 3 n3, Ent.mk (.slice (some ⟨g4, 0, none⟩) n4 (n4 + 1)) 4 n4]
theorem blocks4 {g1 n1 g2 n2 g3 n3 g4 n4 g : Nat} (h : Blocks (ents4 g1 n1 g2 n2 g3 n3 g4 n4) g) : g = g1 ∨ g = g2 ∨ g = g3 ∨ g = g4 := by
  obtain ⟨i, hi, h⟩ := h
  have : i = 0 ∨ i = 1 ∨ i = 2 ∨ i = 3 := by
    simp [ents4] at hi
    omega
  rcases this with rfl | rfl | rfl | rfl <;> simp [ents4, Value.ownBlock] at h <;> omega
theorem distinct4 {g1 n1 g2 n2 g3 n3 g4 n4 : Nat} (h : g1 ≠ g2 ∧ g1 ≠ g3 ∧ g1 ≠ g4 ∧ g2 ≠ g3 ∧ g2 ≠ g4 ∧ g3 ≠ g4) : Distinct (ents4 g1 n1 g2 n2 g3 n3 g4 n4) := by
  obtain ⟨h1, h2, h3, h4, h5, h6⟩ := h
  intro i j hi hj hne
  refine .inr ?_
  have a : i = 0 ∨ i = 1 ∨ i = 2 ∨ i = 3 := by
    simp [ents4] at hi
    omega
  have b : j = 0 ∨ j = 1 ∨ j = 2 ∨ j = 3 := by
    simp [ents4] at hj
    omega
  rcases a with rfl | rfl | rfl | rfl <;> rcases b with rfl | rfl | rfl | rfl <;> simp [ents4, Value.ownBlock] at hne ⊢ <;> omega
theorem lists4 {w : World} {lo g1 g2 g3 g4 : Nat} {l1 l2 l3 l4 : List Nat} (h : lo ≤ g1 ∧ lo ≤ g2 ∧ lo ≤ g3 ∧ lo ≤ g4) (t1 : TwG w g1 l1) (t2 : TwG w g2 l2) (t3 : TwG w g3 l3) (t4 : TwG w g4 l4)
    (k1 : l1.length ≤ 4294967296) (k2 : l2.length ≤ 4294967296) (k3 : l3.length ≤ 4294967296) (k4 : l4.length ≤ 4294967296) : Lists lo 137 w (ents4 g1 l1.length g2 l2.length g3 l3.length g4 l4.length) := by
  intro i hi
  have a : i = 0 ∨ i = 1 ∨ i = 2 ∨ i = 3 := by
    simp [ents4] at hi
    omega
  rcases a with rfl | rfl | rfl | rfl
  · exact ⟨_, t1.owns h.1 k1⟩
  · exact ⟨_, t2.owns h.2.1 k2⟩
  · exact ⟨_, t3.owns h.2.2.1 k3⟩
  · exact ⟨_, t4.owns h.2.2.2 k4⟩
/-- The Book, and the twin's lists in it. -/
def TwBook (W0 : World) (bk base g1 n1 g2 n2 g3 n3 g4 n4 : Nat) (w : World) : Prop := BookS W0 bk base (ents4 g1 n1 g2 n2 g3 n3 g4 n4) w
theorem bookTwin_c (W0 : World) (bk base T : Nat) (nm : ByteArray) (kd co : Int) (b1 b2 b3 b4 : Bool) (g1 n1 g2 n2 g3 n3 g4 n4 : Nat) (h : W0.heap[bk]? = some (.cells bookCells T)) (hb : base ≤ W0.heap.size) :
    Calls Tryz.prog 13 #[.pointer (some ⟨bk, 0, none⟩), .agg #[.string nm, .int .u8 kd, .bool b1, .slice (some ⟨g1, 0, none⟩) n1 (n1 + 1), .bool b2, .slice (some ⟨g2, 0, none⟩) n2 (n2 + 1), .bool b3, .slice (some ⟨g3, 0, none⟩) n3 (n3 + 1), .bool b4, .slice (some ⟨g4, 0, none⟩) n4 (n4 + 1), .int .i64 co]] W0
      fun e w' => e = .returned (.tuple #[]) ∧ TwBook W0 bk base g1 n1 g2 n2 g3 n3 g4 n4 w' ∧ Kp bk W0 w' :=
  bPart_s W0 bk base nm co kd b1 _ n1 (n1 + 1) b2 _ n2 (n2 + 1) b3 _ n3 (n3 + 1) b4 _ n4 (n4 + 1) [] W0 (BookS.start h hb) (by decide)
theorem apartTwin_c (W0 : World) (bk lo g1 g2 g3 g4 : Nat) (l1 l2 l3 l4 : List Nat) (w : World) (h : TwBook W0 bk lo g1 l1.length g2 l2.length g3 l3.length g4 l4.length w)
    (hne : g1 ≠ g2 ∧ g1 ≠ g3 ∧ g1 ≠ g4 ∧ g2 ≠ g3 ∧ g2 ≠ g4 ∧ g3 ≠ g4) (hlo : lo ≤ g1 ∧ lo ≤ g2 ∧ lo ≤ g3 ∧ lo ≤ g4) (hbk : g1 ≠ bk ∧ g2 ≠ bk ∧ g3 ≠ bk ∧ g4 ≠ bk) (t1 : TwG W0 g1 l1) (t2 : TwG W0 g2 l2) (t3 : TwG W0 g3 l3) (t4 : TwG W0 g4 l4)
    (k1 : l1.length ≤ 1000000000) (k2 : l2.length ≤ 1000000000) (k3 : l3.length ≤ 1000000000) (k4 : l4.length ≤ 1000000000) :
    Calls Tryz.prog 14 #[.pointer (some ⟨bk, 0, none⟩)] w fun e w' => e = .returned (.bool true) ∧ Chg W0 w' (fun g => (g = g1 ∨ g = g2 ∨ g = g3 ∨ g = g4) ∨ g = bk) := by
  refine (apart_s W0 bk lo _ w h (by simp [ents4]) (by simp [ents4]) (lists4 hlo t1 t2 t3 t4 (by omega) (by omega) (by omega) (by omega)) (distinct4 hne) (fun g hg => ?_) (fun i hi => ?_)).mono fun e w' hh => ⟨hh.1, hh.2.mono fun g _ hg => ?_⟩
  · rcases blocks4 hg with rfl | rfl | rfl | rfl
    · exact ⟨hbk.1, t1.lt⟩
    · exact ⟨hbk.2.1, t2.lt⟩
    · exact ⟨hbk.2.2.1, t3.lt⟩
    · exact ⟨hbk.2.2.2, t4.lt⟩
  · have a : i = 0 ∨ i = 1 ∨ i = 2 ∨ i = 3 := by
      simp [ents4] at hi
      omega
    rcases a with rfl | rfl | rfl | rfl <;> simp [ents4] <;> omega
  · rcases hg with hg | hg
    · exact .inl (blocks4 hg)
    · exact .inr hg
end Go.Proofs.YtplhndmncjoghaaGreatDoor
namespace Go.Proofs.YtplhndmncjoghaaGreatDoor
set_option maxRecDepth 100000
open Go Go.RowKit Go.Proofs
/-- Are two raw numbers alike? -/
def eqI (b b' : Bool) (l l' : List Nat) : Bool := decide (b = b' ∧ l = l')
theorem eqI_self (b : Bool) (l : List Nat) : eqI b b l l = true := by simp [eqI]
/-- A raw fraction's two rows. -/
def RawL (w : World) (b1 : Bool) (a1 : Option Addr) (l1 : List Nat) (c1 : Nat) (b2 : Bool) (a2 : Option Addr) (l2 : List Nat) (c2 : Nat) : Prop :=
  l1.length ≤ 4294967296 ∧ l2.length ≤ 4294967296 ∧ AnyR w (.agg #[.bool b1, .slice a1 l1.length c1]) b1 l1 ∧ AnyR w (.agg #[.bool b2, .slice a2 l2.length c2]) b2 l2
theorem RawL.ext {w w' : World} {b1 : Bool} {a1 : Option Addr} {l1 : List Nat} {c1 : Nat} {b2 : Bool} {a2 : Option Addr} {l2 : List Nat} {c2 : Nat} (h : RawL w b1 a1 l1 c1 b2 a2 l2 c2) (e : Ext w w') : RawL w' b1 a1 l1 c1 b2 a2 l2 c2 := ⟨h.1, h.2.1, h.2.2.1.ext e, h.2.2.2.ext e⟩
theorem RawL.zero (w : World) : RawL w false none [] 0 false none [] 0 := by
  have h : AnyR w (.agg #[.bool false, .slice none 0 0]) false [] := ⟨none, 0, rfl, okL_nil, Nat.le_refl _, row_nil w⟩
  exact ⟨Nat.zero_le _, Nat.zero_le _, h, h⟩
set_option maxRecDepth 100000 in
set_option maxHeartbeats 3200000 in
theorem sameFrac_l (b1 : Bool) (a1 : Option Addr) (l1 : List Nat) (c1 : Nat) (b2 : Bool) (a2 : Option Addr) (l2 : List Nat) (c2 : Nat) (b1' : Bool) (a1' : Option Addr) (l1' : List Nat) (c1' : Nat) (b2' : Bool) (a2' : Option Addr) (l2' : List Nat) (c2' : Nat) (w : World) (h : RawL w b1 a1 l1 c1 b2 a2 l2 c2) (h' : RawL w b1' a1' l1' c1' b2' a2' l2' c2') :
    Calls Tryz.prog 155 #[.agg #[.bool b1, .slice a1 l1.length c1, .bool b2, .slice a2 l2.length c2], .agg #[.bool b1', .slice a1' l1'.length c1', .bool b2', .slice a2' l2'.length c2']] w fun e w' => e = .returned (.bool (eqI b1 b1' l1 l1' && eqI b2 b2' l2 l2')) ∧ Ext w w' := by
  have k1 := mkHid (fun W (e : Ext w W) => sameInt_c _ _ b1 b1' l1 l1' W h.1 h'.1 (h.2.2.1.ext e) (h'.2.2.1.ext e))
  have k2 := mkHid (fun W (e : Ext w W) => sameInt_c _ _ b2 b2' l2 l2' W h.2.1 h'.2.1 (h.2.2.2.ext e) (h'.2.2.2.ext e))
  clear h h'
  change Hid (∀ W (e : Ext w W), Calls _ _ _ _ fun e w' => e = .returned (.bool (eqI b1 b1' l1 l1')) ∧ _) at k1
  change Hid (∀ W (e : Ext w W), Calls _ _ _ _ fun e w' => e = .returned (.bool (eqI b2 b2' l2 l2')) ∧ _) at k2
  generalize eqI b1 b1' l1 l1' = r1 at *
  generalize eqI b2 b2' l2 l2' = r2 at *
  generalize l1.length = n1 at *
  generalize l2.length = n2 at *
  generalize l1'.length = n1' at *
  generalize l2'.length = n2' at *
  obtain ⟨wb, hwb⟩ : ∃ wb, wb = (w.alloc (.cells #[.bool b1, .slice a1 n1 c1, .bool b2, .slice a2 n2 c2] 27)).alloc (.cells #[.bool b1', .slice a1' n1' c1', .bool b2', .slice a2' n2' c2'] 27) := ⟨_, rfl⟩
  have hE : Ext w wb := by rw [hwb]; exact ((Ext.refl w).al _).al _
  have z0 : wb.heap[w.heap.size]? = some (.cells #[.bool b1, .slice a1 n1 c1, .bool b2, .slice a2 n2 c2] 27 (0, 0)) := by rw [hwb]; exact (heap_alloc_old _ _ (by simp)).trans (heap_alloc_new _ _)
  have z1 : wb.heap[w.heap.size + 1]? = some (.cells #[.bool b1', .slice a1' n1' c1', .bool b2', .slice a2' n2' c2'] 27 (0, 0)) := by rw [hwb]; exact heap_at _ _ _ (by simp)
  replace hwb := mkHid hwb
  replace z0 := mkHid z0
  replace z1 := mkHid z1
  replace hE := mkHid hE
  go_enter Tryz.func155, Tryz.ntmps155
  go_wp2_with fail
  rw [← hwb.out]
  clear hwb
  refine (k1.out _ hE.out).mono ?_
  rintro e w1 ⟨rfl, hE1⟩
  replace z0 := mkHid (hE1.blk z0.out)
  replace z1 := mkHid (hE1.blk z1.out)
  replace hE := mkHid (hE.out.trans hE1)
  clear hE1
  cases r1
  · go_wp2_with fail
    go_ret
    exact ⟨rfl, hE.out⟩
  · have y2 : w1.cell? ⟨w.heap.size, 2, none⟩ = some (.bool b2) := row16_cells z0.out 2
    have x2 : w1.cell? ⟨w.heap.size + 1, 2, none⟩ = some (.bool b2') := row16_cells z1.out 2
    have y3 : w1.cell? ⟨w.heap.size, 3, none⟩ = some (.slice a2 n2 c2) := row16_cells z0.out 3
    have x3 : w1.cell? ⟨w.heap.size + 1, 3, none⟩ = some (.slice a2' n2' c2') := row16_cells z1.out 3
    go_wp2_with fail
    clear x2 y2 x3 y3
    refine (k2.out _ hE.out).mono ?_
    rintro e w2 ⟨rfl, hE2⟩
    replace z0 := mkHid (hE2.blk z0.out)
    replace z1 := mkHid (hE2.blk z1.out)
    replace hE := mkHid (hE.out.trans hE2)
    clear hE2
    go_wp2_with fail
    go_ret
    exact ⟨rfl, hE.out⟩
set_option maxRecDepth 100000 in
set_option maxHeartbeats 3200000 in
theorem sameElement_l (kd kd' : Int) (b1 : Bool) (a1 : Option Addr) (l1 : List Nat) (c1 : Nat) (b2 : Bool) (a2 : Option Addr) (l2 : List Nat) (c2 : Nat) (b3 : Bool) (a3 : Option Addr) (l3 : List Nat) (c3 : Nat) (b4 : Bool) (a4 : Option Addr) (l4 : List Nat) (c4 : Nat) (b1' : Bool) (a1' : Option Addr) (l1' : List Nat) (c1' : Nat) (b2' : Bool) (a2' : Option Addr) (l2' : List Nat) (c2' : Nat) (b3' : Bool) (a3' : Option Addr) (l3' : List Nat) (c3' : Nat) (b4' : Bool) (a4' : Option Addr) (l4' : List Nat) (c4' : Nat) (w : World) (h1 : RawL w b1 a1 l1 c1 b2 a2 l2 c2) (h2 : RawL w b3 a3 l3 c3 b4 a4 l4 c4) (h1' : RawL w b1' a1' l1' c1' b2' a2' l2' c2') (h2' : RawL w b3' a3' l3' c3' b4' a4' l4' c4') :
    Calls Tryz.prog 90 #[.agg #[.int .u8 kd, .bool b1, .slice a1 l1.length c1, .bool b2, .slice a2 l2.length c2, .bool b3, .slice a3 l3.length c3, .bool b4, .slice a4 l4.length c4], .agg #[.int .u8 kd', .bool b1', .slice a1' l1'.length c1', .bool b2', .slice a2' l2'.length c2', .bool b3', .slice a3' l3'.length c3', .bool b4', .slice a4' l4'.length c4']] w fun e w' => e = .returned (.bool ((kd == kd') && (eqI b1 b1' l1 l1' && eqI b2 b2' l2 l2' && (eqI b3 b3' l3 l3' && eqI b4 b4' l4 l4')))) ∧ Ext w w' := by
  have k1 := mkHid (fun W (e : Ext w W) => sameFrac_l b1 a1 l1 c1 b2 a2 l2 c2 b1' a1' l1' c1' b2' a2' l2' c2' W (h1.ext e) (h1'.ext e))
  have k2 := mkHid (fun W (e : Ext w W) => sameFrac_l b3 a3 l3 c3 b4 a4 l4 c4 b3' a3' l3' c3' b4' a4' l4' c4' W (h2.ext e) (h2'.ext e))
  clear h1 h2 h1' h2'
  generalize (eqI b1 b1' l1 l1' && eqI b2 b2' l2 l2') = r1 at *
  generalize (eqI b3 b3' l3 l3' && eqI b4 b4' l4 l4') = r2 at *
  generalize l1.length = n1 at *
  generalize l1'.length = n1' at *
  generalize l2.length = n2 at *
  generalize l2'.length = n2' at *
  generalize l3.length = n3 at *
  generalize l3'.length = n3' at *
  generalize l4.length = n4 at *
  generalize l4'.length = n4' at *
  obtain ⟨wb, hwb⟩ : ∃ wb, wb = (w.alloc (.cells #[.int .u8 kd, .bool b1, .slice a1 n1 c1, .bool b2, .slice a2 n2 c2, .bool b3, .slice a3 n3 c3, .bool b4, .slice a4 n4 c4] 29)).alloc (.cells #[.int .u8 kd', .bool b1', .slice a1' n1' c1', .bool b2', .slice a2' n2' c2', .bool b3', .slice a3' n3' c3', .bool b4', .slice a4' n4' c4'] 29) := ⟨_, rfl⟩
  have hE : Ext w wb := by rw [hwb]; exact ((Ext.refl w).al _).al _
  have z0 : wb.heap[w.heap.size]? = some (.cells #[.int .u8 kd, .bool b1, .slice a1 n1 c1, .bool b2, .slice a2 n2 c2, .bool b3, .slice a3 n3 c3, .bool b4, .slice a4 n4 c4] 29 (0, 0)) := by rw [hwb]; exact (heap_alloc_old _ _ (by simp)).trans (heap_alloc_new _ _)
  have z1 : wb.heap[w.heap.size + 1]? = some (.cells #[.int .u8 kd', .bool b1', .slice a1' n1' c1', .bool b2', .slice a2' n2' c2', .bool b3', .slice a3' n3' c3', .bool b4', .slice a4' n4' c4'] 29 (0, 0)) := by rw [hwb]; exact heap_at _ _ _ (by simp)
  replace hwb := mkHid hwb
  replace z0 := mkHid z0
  replace z1 := mkHid z1
  replace hE := mkHid hE
  obtain ⟨rk, hrk⟩ : ∃ r, r = (kd == kd') := ⟨_, rfl⟩
  rw [← hrk]
  cases rk
  · have hne : (kd == kd') = false := hrk.symm
    clear hrk
    go_enter Tryz.func90, Tryz.ntmps90
    go_wp2_with fail
    rw [← hwb.out]
    go_ret
    exact ⟨rfl, hE.out⟩
  have hkk : kd = kd' := by simpa using hrk.symm
  subst hkk
  clear hrk
  go_enter Tryz.func90, Tryz.ntmps90
  go_wp2_with fail
  rw [← hwb.out]
  clear hwb
  refine (k1.out _ hE.out).mono ?_
  rintro e w1 ⟨rfl, hE1⟩
  replace z0 := mkHid (hE1.blk z0.out)
  replace z1 := mkHid (hE1.blk z1.out)
  replace hE := mkHid (hE.out.trans hE1)
  clear hE1
  cases r1
  · go_wp2_with fail
    go_ret
    exact ⟨rfl, hE.out⟩
  · have y5 : w1.cell? ⟨w.heap.size, 5, none⟩ = some (.bool b3) := row16_cells z0.out 5
    have x5 : w1.cell? ⟨w.heap.size + 1, 5, none⟩ = some (.bool b3') := row16_cells z1.out 5
    have y6 : w1.cell? ⟨w.heap.size, 6, none⟩ = some (.slice a3 n3 c3) := row16_cells z0.out 6
    have x6 : w1.cell? ⟨w.heap.size + 1, 6, none⟩ = some (.slice a3' n3' c3') := row16_cells z1.out 6
    have y7 : w1.cell? ⟨w.heap.size, 7, none⟩ = some (.bool b4) := row16_cells z0.out 7
    have x7 : w1.cell? ⟨w.heap.size + 1, 7, none⟩ = some (.bool b4') := row16_cells z1.out 7
    have y8 : w1.cell? ⟨w.heap.size, 8, none⟩ = some (.slice a4 n4 c4) := row16_cells z0.out 8
    have x8 : w1.cell? ⟨w.heap.size + 1, 8, none⟩ = some (.slice a4' n4' c4') := row16_cells z1.out 8
    go_wp2_with fail
    clear x5 y5 x6 y6 x7 y7 x8 y8
    refine (k2.out _ hE.out).mono ?_
    rintro e w2 ⟨rfl, hE2⟩
    replace z0 := mkHid (hE2.blk z0.out)
    replace z1 := mkHid (hE2.blk z1.out)
    replace hE := mkHid (hE.out.trans hE2)
    clear hE2
    go_wp2_with fail
    go_ret
    exact ⟨rfl, hE.out⟩
set_option maxRecDepth 100000 in
set_option maxHeartbeats 3200000 in
theorem samePart_l (nm nm' : ByteArray) (kd kd' co co' : Int) (b1 : Bool) (a1 : Option Addr) (l1 : List Nat) (c1 : Nat) (b2 : Bool) (a2 : Option Addr) (l2 : List Nat) (c2 : Nat) (b3 : Bool) (a3 : Option Addr) (l3 : List Nat) (c3 : Nat) (b4 : Bool) (a4 : Option Addr) (l4 : List Nat) (c4 : Nat) (b1' : Bool) (a1' : Option Addr) (l1' : List Nat) (c1' : Nat) (b2' : Bool) (a2' : Option Addr) (l2' : List Nat) (c2' : Nat) (b3' : Bool) (a3' : Option Addr) (l3' : List Nat) (c3' : Nat) (b4' : Bool) (a4' : Option Addr) (l4' : List Nat) (c4' : Nat) (w : World) (h1 : RawL w b1 a1 l1 c1 b2 a2 l2 c2) (h2 : RawL w b3 a3 l3 c3 b4 a4 l4 c4) (h1' : RawL w b1' a1' l1' c1' b2' a2' l2' c2') (h2' : RawL w b3' a3' l3' c3' b4' a4' l4' c4') :
    Calls Tryz.prog 19 #[.agg #[.string nm, .int .u8 kd, .bool b1, .slice a1 l1.length c1, .bool b2, .slice a2 l2.length c2, .bool b3, .slice a3 l3.length c3, .bool b4, .slice a4 l4.length c4, .int .i64 co], .agg #[.string nm', .int .u8 kd', .bool b1', .slice a1' l1'.length c1', .bool b2', .slice a2' l2'.length c2', .bool b3', .slice a3' l3'.length c3', .bool b4', .slice a4' l4'.length c4', .int .i64 co']] w fun e w' => e = .returned (.bool ((nm.toList == nm'.toList) && ((kd == kd') && (eqI b1 b1' l1 l1' && eqI b2 b2' l2 l2' && (eqI b3 b3' l3 l3' && eqI b4 b4' l4 l4'))) && (co == co'))) ∧ Ext w w' := by
  have k1 := mkHid (fun W (e : Ext w W) => sameElement_l kd kd' b1 a1 l1 c1 b2 a2 l2 c2 b3 a3 l3 c3 b4 a4 l4 c4 b1' a1' l1' c1' b2' a2' l2' c2' b3' a3' l3' c3' b4' a4' l4' c4' W (h1.ext e) (h2.ext e) (h1'.ext e) (h2'.ext e))
  clear h1 h2 h1' h2'
  generalize ((kd == kd') && (eqI b1 b1' l1 l1' && eqI b2 b2' l2 l2' && (eqI b3 b3' l3 l3' && eqI b4 b4' l4 l4'))) = r1 at *
  generalize l1.length = n1 at *
  generalize l1'.length = n1' at *
  generalize l2.length = n2 at *
  generalize l2'.length = n2' at *
  generalize l3.length = n3 at *
  generalize l3'.length = n3' at *
  generalize l4.length = n4 at *
  generalize l4'.length = n4' at *
  obtain ⟨wb, hwb⟩ : ∃ wb, wb = (w.alloc (.cells #[.string nm, .int .u8 kd, .bool b1, .slice a1 n1 c1, .bool b2, .slice a2 n2 c2, .bool b3, .slice a3 n3 c3, .bool b4, .slice a4 n4 c4, .int .i64 co] 31)).alloc (.cells #[.string nm', .int .u8 kd', .bool b1', .slice a1' n1' c1', .bool b2', .slice a2' n2' c2', .bool b3', .slice a3' n3' c3', .bool b4', .slice a4' n4' c4', .int .i64 co'] 31) := ⟨_, rfl⟩
  have hE : Ext w wb := by rw [hwb]; exact ((Ext.refl w).al _).al _
  have z0 : wb.heap[w.heap.size]? = some (.cells #[.string nm, .int .u8 kd, .bool b1, .slice a1 n1 c1, .bool b2, .slice a2 n2 c2, .bool b3, .slice a3 n3 c3, .bool b4, .slice a4 n4 c4, .int .i64 co] 31 (0, 0)) := by rw [hwb]; exact (heap_alloc_old _ _ (by simp)).trans (heap_alloc_new _ _)
  have z1 : wb.heap[w.heap.size + 1]? = some (.cells #[.string nm', .int .u8 kd', .bool b1', .slice a1' n1' c1', .bool b2', .slice a2' n2' c2', .bool b3', .slice a3' n3' c3', .bool b4', .slice a4' n4' c4', .int .i64 co'] 31 (0, 0)) := by rw [hwb]; exact heap_at _ _ _ (by simp)
  replace hwb := mkHid hwb
  replace z0 := mkHid z0
  replace z1 := mkHid z1
  replace hE := mkHid hE
  obtain ⟨rk, hrk⟩ : ∃ r, r = (nm.toList == nm'.toList) := ⟨_, rfl⟩
  rw [← hrk]
  cases rk
  · have hne : (nm.toList == nm'.toList) = false := hrk.symm
    clear hrk
    go_enter Tryz.func19, Tryz.ntmps19
    go_wp2_with fail
    rw [← hwb.out]
    go_ret
    exact ⟨rfl, hE.out⟩
  have hkk : (nm.toList == nm'.toList) = true := hrk.symm
  clear hrk
  go_enter Tryz.func19, Tryz.ntmps19
  go_wp2_with fail
  rw [← hwb.out]
  clear hwb
  refine (k1.out _ hE.out).mono ?_
  rintro e w1 ⟨rfl, hE1⟩
  replace z0 := mkHid (hE1.blk z0.out)
  replace z1 := mkHid (hE1.blk z1.out)
  replace hE := mkHid (hE.out.trans hE1)
  clear hE1
  cases r1
  · go_wp2_with fail
    go_ret
    exact ⟨rfl, hE.out⟩
  · have y10 : w1.cell? ⟨w.heap.size, 10, none⟩ = some (.int .i64 co) := row16_cells z0.out 10
    have x10 : w1.cell? ⟨w.heap.size + 1, 10, none⟩ = some (.int .i64 co') := row16_cells z1.out 10
    go_wp2_with fail
    go_ret
    exact ⟨rfl, hE.out⟩
end Go.Proofs.YtplhndmncjoghaaGreatDoor
namespace Go.Proofs.YtplhndmncjoghaaGreatDoor
set_option maxRecDepth 100000
open Go Go.RowKit Go.Proofs
theorem fr_load {P : Program} {S : World → Value → Prop} {o : Oper} {a : Act} {W : World} {X : Prop} {c : Prop} {ic : Decidable c} (hw : c) (ty : TypeId) (x : Operand) (ho : o.op = .load ty x)
    (g : Nat) (hx : a.eval x = .pointer (some ⟨g, 0, none⟩)) (t : TypeId) (cs : Array Value) (fr : Nat × Nat) (d : TypeDesc) (hg : W.heap[g]? = some (.cells cs t fr))
    (hu : P.underlying ty = some d) (hd : (match d with | .struct _ | .array _ _ => true | _ => false) = true) (hi : (P.info? ty).map (·.size) = some cs.size)
    (h : S W (.agg cs)) : if c then givesV P S ((execOp a.eval o).run P W) else X := by
  rw [if_pos hw]
  unfold execOp
  simp only [ho, hx, Instr.loadAt, Instr.sureAddr, Sem.run_bind, Sem.run_pure, Result.andThen_ok, run_loadVar_row W g t ty cs fr d hg hu hd hi]
  exact h
end Go.Proofs.YtplhndmncjoghaaGreatDoor
namespace Go.Proofs.YtplhndmncjoghaaGreatDoor
set_option maxRecDepth 100000
open Go Go.RowKit Go.Proofs
def okOperT (l : List Oper) (n i : Nat) (o : Oper) : Bool :=
  (o.after.toList.all fun e => !Region.binds .any e || decide (e.on < i)) &&
  (if i < n then
    o.dst.isSome && (List.range l.length).all fun j => match l[j]? with
      | some oj => (match oj.dst with
        | some d => (!(o.looksAt l.toArray).contains d || (decide (j < i) && hasEdge o j) || decide (n ≤ j)) && (j == i || o.dst != some d)
        | none => true)
      | none => true
  else (List.range i).all fun j => ancB l 16 o j)
def okFreeT (n size : Nat) (l : List Oper) : Bool :=
  Region.noSelect l.toArray && decide (n ≤ l.length) && (l.all fun o => match o.dst with | some d => decide (d < size) | none => true) &&
    (List.range l.length).all fun i => match l[i]? with | some o => okOperT l n i o | none => true
section
variable {P : Program} {l0 : List Oper} {R : World → World → Prop} {w0 : World} {Q : Exit → Act → World → Prop}
structure OkSpecT (l : List Oper) (n size : Nat) : Prop where
  sel : ∀ (j : Nat) (o : Oper) cs b, l[j]? = some o → o.op ≠ .select cs b
  len : n ≤ l.length
  dst : ∀ (j : Nat) (o : Oper) (d : Tmp), l[j]? = some o → o.dst = some d → d < size
  edge : ∀ (i : Nat) (o : Oper), l[i]? = some o → ∀ e ∈ o.after, Region.binds .any e = true → e.on < i
  has : ∀ (i : Nat) (o : Oper), i < n → l[i]? = some o → o.dst.isSome = true
  look : ∀ (i : Nat) (o : Oper) (j : Nat) (oj : Oper) (d : Tmp), i < n → l[i]? = some o → l[j]? = some oj → oj.dst = some d → d ∈ o.looksAt l.toArray → (j < i ∧ hasEdge o j = true) ∨ n ≤ j
  one : ∀ (i : Nat) (o : Oper) (j : Nat) (oj : Oper) (d : Tmp), i < n → l[i]? = some o → l[j]? = some oj → oj.dst = some d → i ≠ j → o.dst ≠ some d
  tail : ∀ (i : Nat) (o : Oper), n ≤ i → l[i]? = some o → ∀ j, j < i → ancB l 16 o j = true
theorem okFree_specT {n size : Nat} {l : List Oper} (h : okFreeT n size l = true) : OkSpecT l n size := by
  simp only [okFreeT, Bool.and_eq_true, decide_eq_true_eq, List.all_eq_true, List.mem_range] at h
  obtain ⟨⟨⟨h1, h2⟩, h3⟩, h4⟩ := h
  have at_ : ∀ i o, l[i]? = some o → okOperT l n i o = true := by
    intro i o ho
    have := h4 i (List.getElem?_eq_some_iff.1 ho).1
    rwa [ho] at this
  refine ⟨fun j o cs b hj => Region.noSelect_spec h1 j o cs b (by simpa using hj), h2, ?_, ?_, ?_, ?_, ?_, ?_⟩
  · intro j o d ho hd
    have := h3 o (List.mem_of_getElem? ho)
    simpa [hd] using this
  · intro i o ho e he hb
    have := at_ i o ho
    simp only [okOperT, Bool.and_eq_true, List.all_eq_true, Bool.or_eq_true, Bool.not_eq_true', decide_eq_true_eq] at this
    have := this.1 e (Array.mem_toList_iff.2 he)
    rcases this with h | h
    · rw [h] at hb; cases hb
    · exact h
  · intro i o hi ho
    have := at_ i o ho
    simp only [okOperT, Bool.and_eq_true, if_pos hi] at this
    exact this.2.1
  · intro i o j oj d hi ho hj hd hm
    have := at_ i o ho
    simp only [okOperT, Bool.and_eq_true, if_pos hi, List.all_eq_true, List.mem_range] at this
    have := this.2.2 j (List.getElem?_eq_some_iff.1 hj).1
    simp only [hj, hd, Bool.and_eq_true, Bool.or_eq_true, Bool.not_eq_true', decide_eq_true_eq] at this
    rcases this.1 with (h | h) | h
    · have := List.contains_iff_mem.2 hm
      rw [h] at this; cases this
    · exact .inl h
    · exact .inr h
  · intro i o j oj d hi ho hj hd hne
    have := at_ i o ho
    simp only [okOperT, Bool.and_eq_true, if_pos hi, List.all_eq_true, List.mem_range] at this
    have := this.2.2 j (List.getElem?_eq_some_iff.1 hj).1
    simp only [hj, hd, Bool.and_eq_true, Bool.or_eq_true, beq_iff_eq, bne_iff_ne, ne_eq] at this
    rcases this.2 with h | h
    · exact absurd h.symm hne
    · exact h
  · intro i o hi ho j hj
    have := at_ i o ho
    simp only [okOperT, Bool.and_eq_true, if_neg (Nat.not_lt.2 hi), List.all_eq_true, List.mem_range] at this
    exact this.2 j hj
theorem Midway.tmpT {specs : List FSpec} {a0 a : Act} {listed : Array Bool} {W : World} (m : Midway l0 specs R w0 a0 listed a W) (ok : OkSpecT l0 specs.length a0.tmps.size) (k t : Nat) (hk : k ≤ specs.length)
    (h : ∀ (j : Nat) (oj : Oper), l0[j]? = some oj → oj.dst = some t → (j < k ∧ listed.getD j false = true) ∨ specs.length ≤ j) : (frameAt a0 l0 (valuesOf l0 specs a) k).tmps[t]? = a.tmps[t]? := by
  by_cases hex : ∃ (j : Nat) (oj : Oper), l0[j]? = some oj ∧ oj.dst = some t
  · obtain ⟨j, oj, hj, hd⟩ := hex
    rcases h j oj hj hd with ⟨hjk, hlj⟩ | hge
    case inr =>
      have hfr : ∀ (i : Nat) (oi : Oper), i < specs.length → l0[i]? = some oi → oi.dst ≠ some t := fun i oi hi hoi => ok.one i oi j oj t hi hoi hj hd (by omega)
      rw [frameAt_other a0 l0 _ k t fun i oi hi hoi => hfr i oi (by omega) hoi]
      refine (m.other t fun i oi hoi hl => ?_).symm
      rcases Nat.lt_or_ge i specs.length with hi | hi
      · exact hfr i oi hi hoi
      · rw [m.late i hi] at hl; cases hl
    have ht := ok.dst j oj t hj hd
    rw [frameAt_own a0 l0 _ k t j oj hjk hj hd ht fun i o' hne ho' hd' => by
      rcases Nat.lt_or_ge i specs.length with hi | hi
      · exact ok.one i o' j oj t hi ho' hj hd hne hd'
      · exact ok.one j oj i o' t (by omega) hj ho' hd' (Ne.symm hne) hd]
    rw [← m.value hlj hj hd]
    have : t < a.tmps.size := by rw [m.tsize]; exact ht
    simp [this]
  · rw [frameAt_other a0 l0 _ k t fun j o _ ho hd => hex ⟨j, o, ho, hd⟩, m.other t fun j o ho _ hd => hex ⟨j, o, ho, hd⟩]
/-- One operation more, none of the tail. -/
theorem Midway.stepT {specs : List FSpec} {a0 a : Act} {listed : Array Bool} {W : World} (m : Midway l0 specs R w0 a0 listed a W) (ok : OkSpecT l0 specs.length a0.tmps.size) (hrf : ∀ a, R a a) (htr : ∀ a b c, R a b → R b c → R a c)
    (hst : ∀ s ∈ specs, ∀ W W' v, R W W' → s.ok W v → s.ok W' v) (h : freeSteps P l0 R w0 Q 0 specs l0 a0 []) {i : Nat} (hi : i < specs.length) (hr : i ∈ Region.ready .any l0.toArray listed) :
    wpOp P l0.toArray Q i (fun a' W' => Midway l0 specs R w0 a0 (listed.setIfInBounds i true) a' W') a W := by
  obtain ⟨hun, o, ho', hedge⟩ := mem_ready.1 hr
  have ho : l0[i]? = some o := by simpa using ho'
  have hil : i < l0.length := (List.getElem?_eq_some_iff.1 ho).1
  have hlt : i < listed.size := by rw [m.size]; exact hil
  have hat := steps_at h (valuesOf l0 specs a) (valuesOf_fits l0 specs a) i (by omega)
  rw [List.drop_eq_getElem_cons hi, List.drop_eq_getElem_cons hil] at hat
  have hs : specs[i]? = some specs[i] := List.getElem?_eq_getElem hi
  have hoi : l0[i] = o := by
    have := List.getElem?_eq_getElem hil
    rw [ho] at this
    exact (Option.some.inj this).symm
  rw [hoi] at hat
  have hfacts : ∀ p ∈ factsAt specs (valuesOf l0 specs a) i, leans l0 o p.1 = true → p.2.1.ok W p.2.2 := by
    intro p hp hl
    obtain ⟨h1, h2, h3⟩ := mem_factsAt hp
    unfold leans at hl
    split at hl
    · rename_i d hd
      obtain ⟨oj, hj, hdj⟩ := Option.bind_eq_some_iff.1 hd
      have hlook := (ok.look i o p.1 oj d hi ho hj hdj (List.contains_iff_mem.1 hl)).resolve_right (by omega)
      have hlj : listed.getD p.1 false = true := listed_anc (l0 := l0) m.closed 0 o p.1 hedge hlook.2
      have := m.fact p.1 oj d p.2.1 hlj hj hdj h2
      rw [h3, ← m.value hlj hj hdj]
      exact this
    · cases hl
  have hsame : ∀ t, t ∈ o.looksAt l0.toArray → (frameAt a0 l0 (valuesOf l0 specs a) i).tmps[t]? = a.tmps[t]? := by
    intro t ht
    refine m.tmpT ok i t (by omega) fun j oj hj hdj => ?_
    rcases ok.look i o j oj t hi ho hj hdj ht with hlook | hlook
    · exact .inl ⟨hlook.1, listed_anc (l0 := l0) m.closed 0 o j hedge hlook.2⟩
    · exact .inr hlook
  have hev : execOp (frameAt a0 l0 (valuesOf l0 specs a) i).eval o = execOp a.eval o := eval_of_tmps o (fun cs b => ok.sel i o cs b ho) hsame
  have hwa : Region.wanted o (yielded l0.toArray (frameAt a0 l0 (valuesOf l0 specs a) i).tmps) = Region.wanted o (yielded l0.toArray a.tmps) := wanted_of_tmps o hsame
  -- what is left to show of each value
  have next : ∀ W' v, R W W' → specs[i].ok W' v → Midway l0 specs R w0 a0 (listed.setIfInBounds i true) (a.put o.dst v) W' := by
    intro W' v hR hv
    refine ⟨by simpa using m.size, htr _ _ _ m.rel hR, ?_, ?_, ?_, ?_, ?_, ?_⟩
    · rw [← m.defers]; cases o.dst <;> rfl
    · rw [← m.tsize]; cases hd : o.dst <;> simp [Act.put]
    · intro j oj hj hoj e he hb
      by_cases hij : i = j
      · subst hij
        rw [ho] at hoj; cases hoj
        exact getD_set_true (hedge e he hb)
      · rw [getD_set_ne false hij] at hj
        exact getD_set_true (m.closed j oj hj hoj e he hb)
    · intro t ht
      have hne : o.dst ≠ some t := ht i o ho (by simp [hlt])
      rw [← m.other t fun j oj hoj hj => ht j oj hoj (by
        by_cases hij : i = j
        · subst hij; simp [hlt]
        · rw [getD_set_ne false hij]; exact hj)]
      cases hd : o.dst with
      | none => rfl
      | some d =>
        have : d ≠ t := fun e => hne (by rw [hd, e])
        simp [Act.put, Array.getElem?_setIfInBounds_ne this]
    · intro j oj d s hj hoj hdj hsj
      by_cases hij : i = j
      · subst hij
        rw [ho] at hoj; cases hoj
        rw [hs] at hsj; cases hsj
        have hsz : d < a.tmps.size := by rw [m.tsize]; exact ok.dst i _ d ho hdj
        simpa [Act.put, hdj, hsz] using hv
      · rw [getD_set_ne false hij] at hj
        have hf := m.fact j oj d s hj hoj hdj hsj
        have hf := hst s (List.mem_of_getElem? hsj) _ _ _ hR hf
        have hnd : o.dst ≠ some d := ok.one i o j oj d hi ho hoj hdj hij
        cases hd : o.dst with
        | none => simpa [Act.put] using hf
        | some e =>
          have : e ≠ d := fun e' => hnd (by rw [hd, e'])
          simpa [Act.put, Array.getElem?_setIfInBounds_ne this] using hf
    · intro j hj
      rw [getD_set_ne false (show i ≠ j by omega)]
      exact m.late j hj
  unfold wpOp
  simp only [List.getElem?_toArray, ho]
  generalize hsp : specs[i] = s at hat next
  cases s with
  | val c =>
    simp only [freeSteps] at hat
    have hone := hat.1 W m.rel (factsHold_of hfacts)
    rw [hwa, hev] at hone
    split
    · rename_i hw
      rw [if_pos hw] at hone
      refine .inl (upon_of_gives hone fun w' v hv => next _ _ hv.1 hv.2)
    · rename_i hw
      rw [if_neg hw] at hone
      exact next W undef (hrf W) hone
  | pred Φ =>
    simp only [freeSteps] at hat
    have hone := hat.1 W m.rel (factsHold_of hfacts)
    rw [hwa, hev] at hone
    split
    · rename_i hw
      rw [if_pos hw] at hone
      refine .inl (upon_of_gives hone fun w' v hv => next _ _ hv.1 hv.2)
    · rename_i hw
      rw [if_neg hw] at hone
      exact next W undef (hrf W) hone
/-- All of the front is done, and nothing else: the frame is the lexical walk's. -/
theorem Midway.doneT {specs : List FSpec} {a0 a : Act} {listed : Array Bool} {W : World} (m : Midway l0 specs R w0 a0 listed a W) (ok : OkSpecT l0 specs.length a0.tmps.size) (hall : ∀ j, j < specs.length → listed.getD j false = true) :
    a = frameAt a0 l0 (valuesOf l0 specs a) specs.length ∧ ∀ p ∈ factsAt specs (valuesOf l0 specs a) specs.length, p.2.1.ok W p.2.2 := by
  refine ⟨?_, fun p hp => ?_⟩
  · obtain ⟨tm, df⟩ := a
    have hdf := frameAt_defers a0 l0 (valuesOf l0 specs ⟨tm, df⟩) specs.length
    have htm : tm = (frameAt a0 l0 (valuesOf l0 specs ⟨tm, df⟩) specs.length).tmps := by
      refine Array.ext_getElem? fun t => ?_
      by_cases hex : ∃ (j : Nat) (oj : Oper), l0[j]? = some oj ∧ oj.dst = some t ∧ specs.length ≤ j
      · obtain ⟨j, oj, hj, hd, hge⟩ := hex
        by_cases hin : ∃ (i : Nat) (oi : Oper), l0[i]? = some oi ∧ oi.dst = some t ∧ i < specs.length
        · obtain ⟨i, oi, hi, hdi, hlt⟩ := hin
          exact absurd hdi (ok.one i oi j oj t hlt hi hj hd (by omega))
        · rw [frameAt_other a0 l0 _ _ t fun i o hi ho hd' => hin ⟨i, o, ho, hd', hi⟩]
          refine m.other t fun i o ho hl hd' => ?_
          rcases Nat.lt_or_ge i specs.length with h | h
          · exact hin ⟨i, o, ho, hd', h⟩
          · rw [m.late i h] at hl; cases hl
      · refine (m.tmpT ok specs.length t (Nat.le_refl _) fun j oj hj hd => ?_).symm
        have hlt : j < specs.length := by
          rcases Nat.lt_or_ge j specs.length with h | h
          · exact h
          · exact absurd ⟨j, oj, hj, hd, h⟩ hex
        exact .inl ⟨hlt, hall j hlt⟩
    have h1 : (frameAt a0 l0 (valuesOf l0 specs ⟨tm, df⟩) specs.length).defers = df := by rw [hdf, ← m.defers]
    generalize frameAt a0 l0 (valuesOf l0 specs ⟨tm, df⟩) specs.length = f at htm h1
    obtain ⟨ft, fd⟩ := f
    simp only at htm h1
    rw [htm, h1]
  · obtain ⟨h1, h2, h3⟩ := mem_factsAt hp
    have hil : p.1 < l0.length := by have := ok.len; omega
    have ho : l0[p.1]? = some l0[p.1] := List.getElem?_eq_getElem hil
    rw [h3]
    cases hd : l0[p.1].dst with
    | some d =>
      rw [← m.value (hall p.1 h1) ho hd]
      exact m.fact p.1 _ d _ (hall p.1 h1) ho hd h2
    | none =>
      have := ok.has p.1 _ h1 ho
      simp [hd] at this
theorem free_anyT {specs : List FSpec} {a0 : Act} (ok : OkSpecT l0 specs.length a0.tmps.size) (hrf : ∀ a, R a a) (htr : ∀ a b c, R a b → R b c → R a c)
    (hst : ∀ s ∈ specs, ∀ W W' v, R W W' → s.ok W v → s.ok W' v) (h : freeSteps P l0 R w0 Q 0 specs l0 a0 []) :
    ∀ (fuel : Nat) (listed : Array Bool) (a : Act) (W : World), left l0 listed ≤ fuel → Midway l0 specs R w0 a0 listed a W → wpAny P .any l0.toArray Q fuel listed a W := by
  have fin : ∀ (listed : Array Bool) (a : Act) (W : World), Midway l0 specs R w0 a0 listed a W → (∀ j, j < specs.length → listed.getD j false = true) → wpList P l0.toArray Q (l0.drop specs.length) a W := by
    intro listed a W m hall
    obtain ⟨he, hf⟩ := m.doneT ok hall
    have hat := steps_at h (valuesOf l0 specs a) (valuesOf_fits l0 specs a) specs.length (Nat.le_refl _)
    rw [List.drop_length] at hat
    simp only [freeSteps] at hat
    have := hat W m.rel (factsHold_of fun p hp _ => hf p hp)
    rwa [← he] at this
  have hlst : ∀ (listed : Array Bool) (a : Act) (W : World), Midway l0 specs R w0 a0 listed a W → (∀ j, j < specs.length → listed.getD j false = true) → ∀ i, i < l0.length → (listed.getD i false = true ↔ i < specs.length) := by
    intro listed a W m hall i hi
    constructor
    · intro hl
      rcases Nat.lt_or_ge i specs.length with h | h
      · exact h
      · rw [m.late i h] at hl; cases hl
    · exact hall i
  intro fuel
  induction fuel with
  | zero =>
    intro listed a W hl m
    have hnone : ∀ i, i < l0.length → listed.getD i true = true := by
      intro i hi
      have h0 : ((List.range l0.length).filter fun i => !listed.getD i true) = [] := List.eq_nil_of_length_eq_zero (by unfold left at hl; omega)
      have := List.filter_eq_nil_iff.1 h0 i (List.mem_range.2 hi)
      simpa using this
    have hall : ∀ j, j < specs.length → listed.getD j false = true := by
      intro j hj
      have h1 := hnone j (by have := ok.len; omega)
      rcases listed_cases (listed := listed) (i := j) (by rw [m.size]; have := ok.len; omega) with h2 | h2
      · exact h2
      · rw [h2] at h1; cases h1
    have hn : specs.length = l0.length := by
      rcases Nat.lt_or_ge specs.length l0.length with h1 | h1
      · have h2 := hnone specs.length h1
        have h3 := m.late specs.length (Nat.le_refl _)
        rcases listed_cases (listed := listed) (i := specs.length) (by rw [m.size]; exact h1) with h4 | h4
        · rw [h4] at h3; cases h3
        · rw [h4] at h2; cases h2
      · have := ok.len; omega
    exact tail_forced ok.tail 0 specs.length listed a W 0 (Nat.le_refl _) hn (Nat.le_refl _) m.size m.closed (hlst _ _ _ m hall) ok.edge (fin _ _ _ m hall)
  | succ fuel ih =>
    intro listed a W hl m
    by_cases hall : ∀ j, j < specs.length → listed.getD j false = true
    · refine tail_forced ok.tail (l0.length - specs.length) specs.length listed a W (fuel + 1) (Nat.le_refl _) (by have := ok.len; omega) ?_ m.size m.closed (hlst _ _ _ m hall) ok.edge (fin _ _ _ m hall)
      have := left_ge (l := l0) (listed := listed) (n := specs.length) fun i h1 h2 => by
        have := m.late i h1
        have hlt : i < listed.size := by rw [m.size]; exact h2
        simpa [hlt] using this
      omega
    · refine ⟨fun h0 => ?_, fun i hi => ?_⟩
      · refine absurd (fun j => ?_) hall
        induction j using Nat.strongRecOn with
        | _ j ihj =>
          intro hj
          have hjl : j < l0.length := by have := ok.len; omega
          have hoj : l0[j]? = some l0[j] := List.getElem?_eq_getElem hjl
          rcases listed_cases (listed := listed) (i := j) (by rw [m.size]; exact hjl) with h1 | h1
          · exact h1
          · have hm : j ∈ Region.ready .any l0.toArray listed := mem_ready.2 ⟨h1, l0[j], by simp [hjl], fun e he hb => by
              have := ok.edge j _ hoj e he hb
              exact ihj e.on this (by omega)⟩
            rw [h0] at hm
            cases hm
      · obtain ⟨hun, o, ho', hedge⟩ := mem_ready.1 hi
        have hil : i < l0.length := by have := lt_of_unlisted hun; rw [m.size] at this; exact this
        have hn : i < specs.length := by
          rcases Nat.lt_or_ge i specs.length with h1 | h1
          · exact h1
          · exact absurd (fun j hj => listed_anc m.closed 16 o j hedge (ok.tail i o h1 (by simpa using ho') j (by omega))) hall
        exact wpOp_mono (fun a' W' m' => ih _ a' W' (by have := left_set hil hun; omega) m') (m.stepT ok hrf htr hst h hn hi)
theorem region_freeT {id : Nat} {l : List Oper} {a : Act} {w : World} (R : World → World → Prop) (specs : List FSpec) (hm : P.follows .mixedOrders = true) (hok : okFreeT specs.length a.tmps.size l = true)
    (hrf : ∀ a, R a a) (htr : ∀ a b c, R a b → R b c → R a c) (hdr : ∀ a, R a a.drew) (hst : ∀ s ∈ specs, ∀ W W' v, R W W' → s.ok W v → s.ok W' v)
    (h : freeSteps P l R w Q 0 specs l a []) : (Code.region id l.toArray true).wp P Q a w := by
  refine wp_region_any hm ?_
  have hsz : l.toArray.size = l.length := by simp
  have hget : ∀ i : Nat, (Array.replicate l.toArray.size false).getD i false = false := by
    intro i
    rw [Array.getD_eq_getD_getElem?, Array.getElem?_replicate]
    split <;> rfl
  refine free_anyT (okFree_specT hok) hrf htr hst h _ _ _ _ ?_ ⟨by simp, hdr w, rfl, rfl, ?_, ?_, ?_, ?_⟩
  · unfold left
    refine Nat.le_trans (List.length_filter_le _ _) ?_
    simp
  · intro i o hi
    rw [hget] at hi; cases hi
  · intro t _; rfl
  · intro j o d s hj
    rw [hget] at hj; cases hj
  · intro j _
    exact hget j
end
theorem region_extT {id : Nat} {l : List Oper} {a : Act} {w : World} {Q : Exit → Act → World → Prop} (specs : List FSpec) (hok : okFreeT specs.length a.tmps.size l = true) (hst : StableAll Ext specs)
    (h : freeSteps Tryz.prog l Ext w Q 0 specs l a []) : (Code.region id l.toArray true).wp Tryz.prog Q a w :=
  region_freeT Ext specs mixed hok Ext.refl (fun _ _ _ => Ext.trans) (fun w => (Ext.refl w).dr) (stableAll_mem hst) h
end Go.Proofs.YtplhndmncjoghaaGreatDoor
