/-
  The Book: Apart, where complex numbers alone are kept.
-/
import Derived.Test.YtbpjggljbkppaaaGreatDoorBookK
namespace Go.Proofs.YtbpjggljbkppaaaGreatDoor
open Go Go.RowKit Go.Proofs
/-- All kinds but one are empty. -/
def Nils (bk j : Nat) (w : World) : Prop := ∀ i, i ≠ 0 → i ≠ j → i ≤ 16 → w.cell? ⟨bk, i, none⟩ = some (.slice none 0 0)
theorem Nils.chg {bk j : Nat} {w w' : World} {S : Nat → Prop} (h : Nils bk j w) (c : Chg w w' S) (hs : ¬ S bk) : Nils bk j w' := fun i h0 h1 h2 => c.cell (h i h0 h1 h2) hs
theorem Complexes_c (bk base : Nat) (sa : Option Addr) (sc : Nat) (la : Option Addr) (len lc : Nat) (es : List Ent) (n : Nat) (w : World) (hn : n ≤ 1000000) (hes : es.length ≤ 1000000)
    (h0 : w.cell? ⟨bk, 0, none⟩ = some (.int .i64 n)) (hs : w.cell? ⟨bk, 4, none⟩ = some (.slice sa es.length sc)) (hf : ∀ j, w.frozen? ⟨bk, j, none⟩ = false)
    (ho : Own3 base 70 w (.slice sa es.length sc) es) (hbk : some bk ≠ (Value.slice sa es.length sc).ownBlock) (hbs : base ≤ w.heap.size) :
    Calls Tryz.prog 8 #[.pointer (some ⟨bk, 0, none⟩), .slice la len lc] w fun e w' => e = .returned (.tuple #[]) ∧
      Kept bk 4 base 70 w (.slice sa es.length sc) es (Ent.mk (.slice la len lc) (n + 1) len) w' := by
  have hk := keepComplex_c bk base sa sc la len lc es n w hn hes h0 hs hf ho hbk hbs
  replace hk := mkHid hk
  go_enter Tryz.func8, Tryz.ntmps8
  go_wp2_with (go_at_call 20; refine hk.out.mono ?_; rintro e w' ⟨rfl, hK⟩; replace hK := mkHid hK)
  go_end0
  exact ⟨rfl, hK.out⟩
set_option maxHeartbeats 6400000 in
set_option maxRecDepth 100000 in
theorem apart_complex (bk hb cap base : Nat) (es : List Ent) (w : World) (h : w.cell? ⟨bk, 4, none⟩ = some (.slice (some ⟨hb, 0, none⟩) es.length cap)) (h2 : es.length ≤ 1000000)
   (hN : Nils bk 4 w) (hH : Holds w hb es) (hL : Lists base 61 w es) (hD : Distinct es) (hb1 : ¬ Blocks es bk) (hb2 : ¬ Blocks es hb) (hb3 : bk ≠ hb) (hb4 : hb < w.heap.size) (hbs : base ≤ w.heap.size)
   (hn : ∀ i (h : i < es.length), es[i].n ≤ 1000000 ∧ es[i].len ≤ 1000000000 ∧ FloatKind.f64.format.order (fm es[i].n) (fm es[i].n) = some .eq) :
   Calls Tryz.prog 9 #[.pointer (some ⟨bk, 0, none⟩)] w fun e w' => e = .returned (.bool true) ∧ Chg w w' (fun g => Blocks es g ∨ g = hb) := by
  have Z0 : ∀ i, (i ≠ 0 ∧ i ≠ 4) → i ≤ 16 → w.cell? ⟨bk, i, none⟩ = some (.slice none 0 0) := fun i h => hN i h.1 h.2
  have HF := fillComplex_c bk hb cap base es w h h2 hH hL hD hb1 hb2 (fun i hi => ⟨(hn i hi).1, by have := (hn i hi).2.1; omega⟩)
  have HG := fun w1 (hfi : FillI base 61 mkC w w1 es es.length) => growComplex_c bk hb cap base es w1 (hfi.1.cell h hb1) h2 (hH.chg hfi.1 hb2) hfi.2.1 hD hb1 hb2 hb3 (Nat.lt_of_lt_of_le hb4 hfi.1.size) (Nat.le_trans hbs hfi.1.size) (fun i hi => ⟨(hn i hi).1, (hn i hi).2.1⟩)
  have HK := fun w1 w2 (hfi : FillI base 61 mkC w w1 es es.length) (hgi : GrowI base 61 mkC w1 w2 hb es es.length) => lookComplex_c bk hb cap base es w1 w2 (hgi.1.cell (hfi.1.cell h hb1) (fun e => e.elim hb1 hb3)) h2 hgi hn
  replace HF := mkHid HF
  replace HG := mkHid HG
  replace HK := mkHid HK
  replace hb1 := mkHid hb1
  replace hb3 := mkHid hb3
  replace Z0 := mkHid Z0
  clear hH hL hD hb2 hn hN h
  go_enter Tryz.func9, Tryz.ntmps9
  go_wp2_with (first
    | (go_at_call 24; refine HF.out.mono ?_; rintro e w1 ⟨rfl, hfi⟩; have Z1 : Hid (∀ i, (i ≠ 0 ∧ i ≠ 4) → i ≤ 16 → w1.cell? ⟨bk, i, none⟩ = some (.slice none 0 0)) := mkHid (fun i a b => hfi.1.cell (Z0.out i a b) hb1.out); replace hfi := mkHid hfi)
    | (go_at_call 40; refine (HG.out _ hfi.out).mono ?_; rintro e w2 ⟨rfl, hgi⟩; have Z2 : Hid (∀ i, (i ≠ 0 ∧ i ≠ 4) → i ≤ 16 → w2.cell? ⟨bk, i, none⟩ = some (.slice none 0 0)) := mkHid (fun i a b => hgi.1.cell (Z1.out i a b) (fun e => e.elim hb1.out hb3.out)); replace hgi := mkHid hgi)
    | (go_at_call 56; refine (HK.out _ _ hfi.out hgi.out).mono ?_; rintro e w3 ⟨rfl, hE⟩; have Z3 : Hid (∀ i, (i ≠ 0 ∧ i ≠ 4) → i ≤ 16 → w3.cell? ⟨bk, i, none⟩ = some (.slice none 0 0)) := mkHid (fun i a b => hE.cell (Z2.out i a b)); replace hE := mkHid hE)
    | (go_at_call 21; refine (fillLimb_e bk _ (by first | exact Z0.out _ (by decide) (by decide) | exact Z1.out _ (by decide) (by decide) | exact Z2.out _ (by decide) (by decide) | exact Z3.out _ (by decide) (by decide))).mono ?_; rintro e w' ⟨rfl, rfl⟩)
    | (go_at_call 22; refine (fillNumber_e bk _ (by first | exact Z0.out _ (by decide) (by decide) | exact Z1.out _ (by decide) (by decide) | exact Z2.out _ (by decide) (by decide) | exact Z3.out _ (by decide) (by decide))).mono ?_; rintro e w' ⟨rfl, rfl⟩)
    | (go_at_call 23; refine (fillFloat_e bk _ (by first | exact Z0.out _ (by decide) (by decide) | exact Z1.out _ (by decide) (by decide) | exact Z2.out _ (by decide) (by decide) | exact Z3.out _ (by decide) (by decide))).mono ?_; rintro e w' ⟨rfl, rfl⟩)
    | (go_at_call 25; refine (fillText_e bk _ (by first | exact Z0.out _ (by decide) (by decide) | exact Z1.out _ (by decide) (by decide) | exact Z2.out _ (by decide) (by decide) | exact Z3.out _ (by decide) (by decide))).mono ?_; rintro e w' ⟨rfl, rfl⟩)
    | (go_at_call 26; refine (fillFrac_e bk _ (by first | exact Z0.out _ (by decide) (by decide) | exact Z1.out _ (by decide) (by decide) | exact Z2.out _ (by decide) (by decide) | exact Z3.out _ (by decide) (by decide))).mono ?_; rintro e w' ⟨rfl, rfl⟩)
    | (go_at_call 27; refine (fillGauss_e bk _ (by first | exact Z0.out _ (by decide) (by decide) | exact Z1.out _ (by decide) (by decide) | exact Z2.out _ (by decide) (by decide) | exact Z3.out _ (by decide) (by decide))).mono ?_; rintro e w' ⟨rfl, rfl⟩)
    | (go_at_call 28; refine (fillRay_e bk _ (by first | exact Z0.out _ (by decide) (by decide) | exact Z1.out _ (by decide) (by decide) | exact Z2.out _ (by decide) (by decide) | exact Z3.out _ (by decide) (by decide))).mono ?_; rintro e w' ⟨rfl, rfl⟩)
    | (go_at_call 29; refine (fillElement_e bk _ (by first | exact Z0.out _ (by decide) (by decide) | exact Z1.out _ (by decide) (by decide) | exact Z2.out _ (by decide) (by decide) | exact Z3.out _ (by decide) (by decide))).mono ?_; rintro e w' ⟨rfl, rfl⟩)
    | (go_at_call 30; refine (fillCoat_e bk _ (by first | exact Z0.out _ (by decide) (by decide) | exact Z1.out _ (by decide) (by decide) | exact Z2.out _ (by decide) (by decide) | exact Z3.out _ (by decide) (by decide))).mono ?_; rintro e w' ⟨rfl, rfl⟩)
    | (go_at_call 31; refine (fillDisc_e bk _ (by first | exact Z0.out _ (by decide) (by decide) | exact Z1.out _ (by decide) (by decide) | exact Z2.out _ (by decide) (by decide) | exact Z3.out _ (by decide) (by decide))).mono ?_; rintro e w' ⟨rfl, rfl⟩)
    | (go_at_call 32; refine (fillPart_e bk _ (by first | exact Z0.out _ (by decide) (by decide) | exact Z1.out _ (by decide) (by decide) | exact Z2.out _ (by decide) (by decide) | exact Z3.out _ (by decide) (by decide))).mono ?_; rintro e w' ⟨rfl, rfl⟩)
    | (go_at_call 33; refine (fillDef_e bk _ (by first | exact Z0.out _ (by decide) (by decide) | exact Z1.out _ (by decide) (by decide) | exact Z2.out _ (by decide) (by decide) | exact Z3.out _ (by decide) (by decide))).mono ?_; rintro e w' ⟨rfl, rfl⟩)
    | (go_at_call 34; refine (fillItem_e bk _ (by first | exact Z0.out _ (by decide) (by decide) | exact Z1.out _ (by decide) (by decide) | exact Z2.out _ (by decide) (by decide) | exact Z3.out _ (by decide) (by decide))).mono ?_; rintro e w' ⟨rfl, rfl⟩)
    | (go_at_call 35; refine (fillAct_e bk _ (by first | exact Z0.out _ (by decide) (by decide) | exact Z1.out _ (by decide) (by decide) | exact Z2.out _ (by decide) (by decide) | exact Z3.out _ (by decide) (by decide))).mono ?_; rintro e w' ⟨rfl, rfl⟩)
    | (go_at_call 36; refine (fillReply_e bk _ (by first | exact Z0.out _ (by decide) (by decide) | exact Z1.out _ (by decide) (by decide) | exact Z2.out _ (by decide) (by decide) | exact Z3.out _ (by decide) (by decide))).mono ?_; rintro e w' ⟨rfl, rfl⟩)
    | (go_at_call 37; refine (growLimb_e bk _ (by first | exact Z0.out _ (by decide) (by decide) | exact Z1.out _ (by decide) (by decide) | exact Z2.out _ (by decide) (by decide) | exact Z3.out _ (by decide) (by decide))).mono ?_; rintro e w' ⟨rfl, rfl⟩)
    | (go_at_call 38; refine (growNumber_e bk _ (by first | exact Z0.out _ (by decide) (by decide) | exact Z1.out _ (by decide) (by decide) | exact Z2.out _ (by decide) (by decide) | exact Z3.out _ (by decide) (by decide))).mono ?_; rintro e w' ⟨rfl, rfl⟩)
    | (go_at_call 39; refine (growFloat_e bk _ (by first | exact Z0.out _ (by decide) (by decide) | exact Z1.out _ (by decide) (by decide) | exact Z2.out _ (by decide) (by decide) | exact Z3.out _ (by decide) (by decide))).mono ?_; rintro e w' ⟨rfl, rfl⟩)
    | (go_at_call 41; refine (growText_e bk _ (by first | exact Z0.out _ (by decide) (by decide) | exact Z1.out _ (by decide) (by decide) | exact Z2.out _ (by decide) (by decide) | exact Z3.out _ (by decide) (by decide))).mono ?_; rintro e w' ⟨rfl, rfl⟩)
    | (go_at_call 42; refine (growFrac_e bk _ (by first | exact Z0.out _ (by decide) (by decide) | exact Z1.out _ (by decide) (by decide) | exact Z2.out _ (by decide) (by decide) | exact Z3.out _ (by decide) (by decide))).mono ?_; rintro e w' ⟨rfl, rfl⟩)
    | (go_at_call 43; refine (growGauss_e bk _ (by first | exact Z0.out _ (by decide) (by decide) | exact Z1.out _ (by decide) (by decide) | exact Z2.out _ (by decide) (by decide) | exact Z3.out _ (by decide) (by decide))).mono ?_; rintro e w' ⟨rfl, rfl⟩)
    | (go_at_call 44; refine (growRay_e bk _ (by first | exact Z0.out _ (by decide) (by decide) | exact Z1.out _ (by decide) (by decide) | exact Z2.out _ (by decide) (by decide) | exact Z3.out _ (by decide) (by decide))).mono ?_; rintro e w' ⟨rfl, rfl⟩)
    | (go_at_call 45; refine (growElement_e bk _ (by first | exact Z0.out _ (by decide) (by decide) | exact Z1.out _ (by decide) (by decide) | exact Z2.out _ (by decide) (by decide) | exact Z3.out _ (by decide) (by decide))).mono ?_; rintro e w' ⟨rfl, rfl⟩)
    | (go_at_call 46; refine (growCoat_e bk _ (by first | exact Z0.out _ (by decide) (by decide) | exact Z1.out _ (by decide) (by decide) | exact Z2.out _ (by decide) (by decide) | exact Z3.out _ (by decide) (by decide))).mono ?_; rintro e w' ⟨rfl, rfl⟩)
    | (go_at_call 47; refine (growDisc_e bk _ (by first | exact Z0.out _ (by decide) (by decide) | exact Z1.out _ (by decide) (by decide) | exact Z2.out _ (by decide) (by decide) | exact Z3.out _ (by decide) (by decide))).mono ?_; rintro e w' ⟨rfl, rfl⟩)
    | (go_at_call 48; refine (growPart_e bk _ (by first | exact Z0.out _ (by decide) (by decide) | exact Z1.out _ (by decide) (by decide) | exact Z2.out _ (by decide) (by decide) | exact Z3.out _ (by decide) (by decide))).mono ?_; rintro e w' ⟨rfl, rfl⟩)
    | (go_at_call 49; refine (growDef_e bk _ (by first | exact Z0.out _ (by decide) (by decide) | exact Z1.out _ (by decide) (by decide) | exact Z2.out _ (by decide) (by decide) | exact Z3.out _ (by decide) (by decide))).mono ?_; rintro e w' ⟨rfl, rfl⟩)
    | (go_at_call 50; refine (growItem_e bk _ (by first | exact Z0.out _ (by decide) (by decide) | exact Z1.out _ (by decide) (by decide) | exact Z2.out _ (by decide) (by decide) | exact Z3.out _ (by decide) (by decide))).mono ?_; rintro e w' ⟨rfl, rfl⟩)
    | (go_at_call 51; refine (growAct_e bk _ (by first | exact Z0.out _ (by decide) (by decide) | exact Z1.out _ (by decide) (by decide) | exact Z2.out _ (by decide) (by decide) | exact Z3.out _ (by decide) (by decide))).mono ?_; rintro e w' ⟨rfl, rfl⟩)
    | (go_at_call 52; refine (growReply_e bk _ (by first | exact Z0.out _ (by decide) (by decide) | exact Z1.out _ (by decide) (by decide) | exact Z2.out _ (by decide) (by decide) | exact Z3.out _ (by decide) (by decide))).mono ?_; rintro e w' ⟨rfl, rfl⟩)
    | (go_at_call 53; refine (lookLimb_e bk _ (by first | exact Z0.out _ (by decide) (by decide) | exact Z1.out _ (by decide) (by decide) | exact Z2.out _ (by decide) (by decide) | exact Z3.out _ (by decide) (by decide))).mono ?_; rintro e w' ⟨rfl, rfl⟩)
    | (go_at_call 54; refine (lookNumber_e bk _ (by first | exact Z0.out _ (by decide) (by decide) | exact Z1.out _ (by decide) (by decide) | exact Z2.out _ (by decide) (by decide) | exact Z3.out _ (by decide) (by decide))).mono ?_; rintro e w' ⟨rfl, rfl⟩)
    | (go_at_call 55; refine (lookFloat_e bk _ (by first | exact Z0.out _ (by decide) (by decide) | exact Z1.out _ (by decide) (by decide) | exact Z2.out _ (by decide) (by decide) | exact Z3.out _ (by decide) (by decide))).mono ?_; rintro e w' ⟨rfl, rfl⟩)
    | (go_at_call 57; refine (lookText_e bk _ (by first | exact Z0.out _ (by decide) (by decide) | exact Z1.out _ (by decide) (by decide) | exact Z2.out _ (by decide) (by decide) | exact Z3.out _ (by decide) (by decide))).mono ?_; rintro e w' ⟨rfl, rfl⟩)
    | (go_at_call 58; refine (lookFrac_e bk _ (by first | exact Z0.out _ (by decide) (by decide) | exact Z1.out _ (by decide) (by decide) | exact Z2.out _ (by decide) (by decide) | exact Z3.out _ (by decide) (by decide))).mono ?_; rintro e w' ⟨rfl, rfl⟩)
    | (go_at_call 59; refine (lookGauss_e bk _ (by first | exact Z0.out _ (by decide) (by decide) | exact Z1.out _ (by decide) (by decide) | exact Z2.out _ (by decide) (by decide) | exact Z3.out _ (by decide) (by decide))).mono ?_; rintro e w' ⟨rfl, rfl⟩)
    | (go_at_call 60; refine (lookRay_e bk _ (by first | exact Z0.out _ (by decide) (by decide) | exact Z1.out _ (by decide) (by decide) | exact Z2.out _ (by decide) (by decide) | exact Z3.out _ (by decide) (by decide))).mono ?_; rintro e w' ⟨rfl, rfl⟩)
    | (go_at_call 61; refine (lookElement_e bk _ (by first | exact Z0.out _ (by decide) (by decide) | exact Z1.out _ (by decide) (by decide) | exact Z2.out _ (by decide) (by decide) | exact Z3.out _ (by decide) (by decide))).mono ?_; rintro e w' ⟨rfl, rfl⟩)
    | (go_at_call 62; refine (lookCoat_e bk _ (by first | exact Z0.out _ (by decide) (by decide) | exact Z1.out _ (by decide) (by decide) | exact Z2.out _ (by decide) (by decide) | exact Z3.out _ (by decide) (by decide))).mono ?_; rintro e w' ⟨rfl, rfl⟩)
    | (go_at_call 63; refine (lookDisc_e bk _ (by first | exact Z0.out _ (by decide) (by decide) | exact Z1.out _ (by decide) (by decide) | exact Z2.out _ (by decide) (by decide) | exact Z3.out _ (by decide) (by decide))).mono ?_; rintro e w' ⟨rfl, rfl⟩)
    | (go_at_call 64; refine (lookPart_e bk _ (by first | exact Z0.out _ (by decide) (by decide) | exact Z1.out _ (by decide) (by decide) | exact Z2.out _ (by decide) (by decide) | exact Z3.out _ (by decide) (by decide))).mono ?_; rintro e w' ⟨rfl, rfl⟩)
    | (go_at_call 65; refine (lookDef_e bk _ (by first | exact Z0.out _ (by decide) (by decide) | exact Z1.out _ (by decide) (by decide) | exact Z2.out _ (by decide) (by decide) | exact Z3.out _ (by decide) (by decide))).mono ?_; rintro e w' ⟨rfl, rfl⟩)
    | (go_at_call 66; refine (lookItem_e bk _ (by first | exact Z0.out _ (by decide) (by decide) | exact Z1.out _ (by decide) (by decide) | exact Z2.out _ (by decide) (by decide) | exact Z3.out _ (by decide) (by decide))).mono ?_; rintro e w' ⟨rfl, rfl⟩)
    | (go_at_call 67; refine (lookAct_e bk _ (by first | exact Z0.out _ (by decide) (by decide) | exact Z1.out _ (by decide) (by decide) | exact Z2.out _ (by decide) (by decide) | exact Z3.out _ (by decide) (by decide))).mono ?_; rintro e w' ⟨rfl, rfl⟩)
    | (go_at_call 68; refine (lookReply_e bk _ (by first | exact Z0.out _ (by decide) (by decide) | exact Z1.out _ (by decide) (by decide) | exact Z2.out _ (by decide) (by decide) | exact Z3.out _ (by decide) (by decide))).mono ?_; rintro e w' ⟨rfl, rfl⟩))
  go_ret
  exact ⟨rfl, ((hfi.out.1.mono fun g _ h => .inl h).trans hgi.out.1).trans (Chg.of_ext hE.out _)⟩
end Go.Proofs.YtbpjggljbkppaaaGreatDoor
