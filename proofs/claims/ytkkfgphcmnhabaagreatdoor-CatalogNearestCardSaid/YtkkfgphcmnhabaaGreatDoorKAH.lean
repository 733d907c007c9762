/-
  The Book: marks; entries. The Book: Apart, where limbs alone are kept; a Book of limbs, list by list. law01: SameFrac, SameElement, SamePart of whatever limbs: printed by tools/gen_samel.py. A region's load of a whole row, by the row's law: no program. (The walk's own load of 16 cells costs the kernel 14 s and 2 GB.) As FreeT, but an operation of the front may give no value (a store): printed by tools/gen_frees.py. A row that is stored early or late. law25: asked, of a catalogue that is gone: printed by tools/gen_asked.py. bench.may, bench.Check of one element, catalog.may: printed by tools/gen_may.py. polestarref01: Sign, Check, Of, Bits, Cmp, Below, Turned. polestarref01: Divide. polestarref02: turned, Lowest. Names: what is one; catalog.named. The catalogue in memory: its struct, its map, its parts; where they lie.
-/
import Derived.Test.YtkkfgphcmnhabaaGreatDoorKAG
import Derived.Test.YtkkfgphcmnhabaaGreatDoorKAA
import Derived.Test.YtkkfgphcmnhabaaGreatDoorProg
import Derived.Test.YtkkfgphcmnhabaaGreatDoorKAE
import Derived.Test.YtkkfgphcmnhabaaGreatDoorKAD
import Derived.Test.YtkkfgphcmnhabaaGreatDoorKAF
import Derived.Test.YtkkfgphcmnhabaaGreatDoorKAC
import Derived.Deep.LoopGhost
import Derived.Test.YtkkfgphcmnhabaaGreatDoorShelf
import Derived.Shelf.Strings.SlTrimAscii
namespace Go.Proofs.YtkkfgphcmnhabaaGreatDoor
set_option maxRecDepth 100000
open Go Go.RowKit Go.Proofs
/-- A list that a Book holds: the list, its number, how long it is. -/
structure Ent where
  l : Value
  n : Nat
  len : Nat

/-- A world whose blocks are as they were but for some. -/
structure Chg (w w' : World) (S : Nat → Prop) : Prop where
  os : w'.os = w.os
  tape : w'.tape = w.tape
  output : w'.output = w.output
  size : w.heap.size ≤ w'.heap.size
  block : ∀ k, k < w.heap.size → ¬ S k → w'.heap[k]? = w.heap[k]?
theorem Chg.refl (w : World) (S : Nat → Prop) : Chg w w S := ⟨rfl, rfl, rfl, Nat.le_refl _, fun _ _ _ => rfl⟩
theorem Chg.trans {a b c : World} {S : Nat → Prop} (h : Chg a b S) (k : Chg b c S) : Chg a c S :=
  ⟨k.os.trans h.os, k.tape.trans h.tape, k.output.trans h.output, Nat.le_trans h.size k.size, fun i hi hs => (k.block i (Nat.lt_of_lt_of_le hi h.size) hs).trans (h.block i hi hs)⟩
theorem Chg.mono {a b : World} {S T : Nat → Prop} (h : Chg a b S) (hs : ∀ k, k < a.heap.size → S k → T k) : Chg a b T :=
  ⟨h.os, h.tape, h.output, h.size, fun i hi hn => h.block i hi fun x => hn (hs i hi x)⟩
theorem Chg.grown {a b : World} {row : Option Nat} (h : a.grownBy b row) : Chg a b (fun k => some k = row) :=
  ⟨h.os, h.tape, h.output, h.size, h.block⟩
theorem Chg.al (a : World) (o : Obj) (S : Nat → Prop) : Chg a (a.alloc o) S := (Chg.grown (World.grownBy_alloc a o none)).mono fun k _ h => by cases h
theorem Chg.cell {w w' : World} {S : Nat → Prop} (h : Chg w w' S) {a : Addr} {v : Value} (hc : w.cell? a = some v) (hs : ¬ S a.block) : w'.cell? a = some v :=
  (World.cell?_of_block (h.block a.block (World.block_lt_of_cell? w a hc) hs)).trans hc
theorem Chg.row {w w' : World} {S : Nat → Prop} (h : Chg w w' S) {base E sz n : Nat} {v : Value} {xs : List Value} (ho : w.ownsRow base E sz v n xs) (hs : ∀ g, v.ownBlock = some g → ¬ S g) : w'.ownsRow base E sz v n xs := by
  refine ⟨ho.1, ?_⟩
  rcases ho.2 with hn | ⟨g, cap, cur, rfl, hb, hgg, rest⟩
  · exact .inl hn
  · refine .inr ⟨g, cap, cur, rfl, hb, ?_, rest⟩
    rw [h.block g (Array.getElem?_eq_some_iff.1 hgg).1 (hs g rfl)]
    exact hgg
theorem Chg.ext {w w' : World} {S : Nat → Prop} (h : Chg w w' S) (b : World) (hb : Ext b w) (hs : ∀ k, k < b.heap.size → ¬ S k) : Ext b w' :=
  ⟨h.os.trans hb.os, h.tape.trans hb.tape, h.output.trans hb.output, Nat.le_trans hb.size h.size, fun k hk => (h.block k (Nat.lt_of_lt_of_le hk hb.size) (hs k hk)).trans (hb.block k hk)⟩
theorem Chg.of_ext {w w' : World} (h : Ext w w') (S : Nat → Prop) : Chg w w' S := ⟨h.os, h.tape, h.output, h.size, fun k hk _ => h.block k hk⟩
/-- The blocks of the lists. -/
def Blocks (es : List Ent) (g : Nat) : Prop := ∃ i, ∃ h : i < es.length, es[i].l.ownBlock = some g
/-- What the Book's own list of a kind holds. -/
def Holds (w : World) (hb : Nat) (es : List Ent) : Prop := ∀ i (h : i < es.length), w.cell? ⟨hb, i * 3, none⟩ = some es[i].l ∧ (∃ a n c, w.cell? ⟨hb, i * 3 + 1, none⟩ = some (.slice a n c)) ∧ w.cell? ⟨hb, i * 3 + 2, none⟩ = some (.int .i64 es[i].n) ∧ w.frozen? ⟨hb, i * 3 + 1, none⟩ = false
/-- The first lists are marked. -/
def Marked (base E : Nat) (mk : Int → Value) (w : World) (es : List Ent) (k : Nat) : Prop := ∀ i (h : i < es.length), i < k → w.ownsRow base E 1 es[i].l es[i].len (List.replicate es[i].len (mk es[i].n))
/-- The first places marked. -/
def part (m : Value) (xs : List Value) (k : Nat) : List Value := List.replicate k m ++ xs.drop k
/-- What is kept while the lists grow. -/
def GrowI (base E : Nat) (mk : Int → Value) (w wr : World) (hb : Nat) (es : List Ent) (k : Nat) : Prop :=
  Chg w wr (fun g => Blocks es g ∨ g = hb) ∧ Marked base E mk wr es es.length ∧ Holds wr hb es ∧
    ∀ i (h : i < es.length), i < k → ∃ v, wr.cell? ⟨hb, i * 3 + 1, none⟩ = some v ∧ wr.ownsRow base E 1 v (es[i].len + 70) (List.replicate (es[i].len + 70) (mk es[i].n)) ∧ ∀ b, v.ownBlock = some b → es[i].l.ownBlock = some b ∨ w.heap.size ≤ b
/-- What looking asks. -/
def LookI (base E : Nat) (mk : Int → Value) (w wr : World) (hb : Nat) (es : List Ent) (k : Nat) : Prop :=
  True ∧ Marked base E mk wr es es.length ∧ Holds wr hb es ∧
    ∀ i (h : i < es.length), i < k → ∃ v, wr.cell? ⟨hb, i * 3 + 1, none⟩ = some v ∧ wr.ownsRow base E 1 v (es[i].len + 70) (List.replicate (es[i].len + 70) (mk es[i].n)) ∧ ∀ b, v.ownBlock = some b → es[i].l.ownBlock = some b ∨ w.heap.size ≤ b
theorem GrowI.look {base E : Nat} {mk : Int → Value} {w wr : World} {hb : Nat} {es : List Ent} {k : Nat} (h : GrowI base E mk w wr hb es k) : LookI base E mk w wr hb es k := ⟨trivial, h.2⟩
/-- The cells of a Book's own list, as they are kept. -/
def entCells (es : List Ent) : List Value := es.flatMap fun e => [e.l, .slice none 0 0, .int .i64 e.n]
theorem entCells_length (es : List Ent) : (entCells es).length = es.length * 3 := by
  induction es with
  | nil => rfl
  | cons e es ih =>
    have : entCells (e :: es) = [e.l, .slice none 0 0, .int .i64 e.n] ++ entCells es := rfl
    rw [this, List.length_append, ih]
    simp
    omega
theorem entCells_get (es : List Ent) : ∀ i (h : i < es.length), (entCells es)[i * 3]? = some es[i].l ∧ (entCells es)[i * 3 + 1]? = some (.slice none 0 0) ∧ (entCells es)[i * 3 + 2]? = some (.int .i64 es[i].n) := by
  induction es with
  | nil => intro i h; simp at h
  | cons e es ih =>
    intro i h
    have he : entCells (e :: es) = [e.l, .slice none 0 0, .int .i64 e.n] ++ entCells es := rfl
    cases i with
    | zero => rw [he]; exact ⟨rfl, rfl, rfl⟩
    | succ i =>
      have hi : i < es.length := by simpa using h
      obtain ⟨h1, h2, h3⟩ := ih i hi
      rw [he]
      refine ⟨?_, ?_, ?_⟩
      · rw [List.getElem?_append_right (by simp; omega)]; simp only [List.length_cons, List.length_nil, List.getElem_cons_succ]; rw [show (i + 1) * 3 - (0 + 1 + 1 + 1) = i * 3 by omega]; exact h1
      · rw [List.getElem?_append_right (by simp; omega)]; simp only [List.length_cons, List.length_nil]; rw [show (i + 1) * 3 + 1 - (0 + 1 + 1 + 1) = i * 3 + 1 by omega]; exact h2
      · rw [List.getElem?_append_right (by simp; omega)]; simp only [List.length_cons, List.length_nil, List.getElem_cons_succ]; rw [show (i + 1) * 3 + 2 - (0 + 1 + 1 + 1) = i * 3 + 2 by omega]; exact h3
/-- A Book's own list in memory. -/
def Own3 (base T : Nat) (w : World) (s : Value) (es : List Ent) : Prop := w.ownsRow base T 3 s es.length (entCells es)
theorem Own3.holds {base T : Nat} {w : World} {s : Value} {es : List Ent} (h : Own3 base T w s es) (hne : es ≠ []) : ∃ hb c, s = .slice (some ⟨hb, 0, none⟩) es.length c ∧ Holds w hb es ∧ base ≤ hb ∧ hb < w.heap.size := by
  rcases h.2 with ⟨_, h0⟩ | ⟨g, cap, cur, rfl, a2, a3, a4, a5, a6, a7⟩
  · exact absurd (List.eq_nil_of_length_eq_zero h0) hne
  · refine ⟨g, cap, rfl, fun i hi => ?_, a2, (Array.getElem?_eq_some_iff.1 a3).1⟩
    obtain ⟨e1, e2, e3⟩ := entCells_get es i hi
    have hg : ∀ j u, (entCells es)[j]? = some u → w.cell? ⟨g, j, none⟩ = some u := by
      intro j u hu
      have := World.ownsRow.cells h (g := g) rfl j u hu
      rwa [show (⟨g, 0, none⟩ : Addr).add j = ⟨g, j, none⟩ by unfold Addr.add; split <;> simp_all] at this
    exact ⟨hg _ _ e1, ⟨none, 0, 0, hg _ _ e2⟩, hg _ _ e3, frozen_of_row w g _ cur T a3⟩
/-- What a row becomes when three cells are written at a place. -/
def upd (p : Nat) (x y z : Value) (o : Obj) : Obj := match o with
  | .cells cur T fz => .cells (((cur.setIfInBounds p x).setIfInBounds (p + 1) y).setIfInBounds (p + 2) z) T fz
  | o => o
theorem set3_idem (cur : Array Value) (p : Nat) (x y z : Value) : ((((((cur.setIfInBounds p x).setIfInBounds (p + 1) y).setIfInBounds (p + 2) z).setIfInBounds p x).setIfInBounds (p + 1) y).setIfInBounds (p + 2) z) = ((cur.setIfInBounds p x).setIfInBounds (p + 1) y).setIfInBounds (p + 2) z := by
  apply Array.ext_getElem?
  intro i
  simp only [Array.getElem?_setIfInBounds, Array.size_setIfInBounds]
  by_cases h2 : p + 2 = i
  · simp [h2]
  · by_cases h1 : p + 1 = i
    · simp [h1, h2]
    · by_cases h0 : p = i
      · subst h0; simp
      · simp [h0, h1, h2]
theorem upd_upd (p : Nat) (x y z : Value) (o : Obj) : upd p x y z (upd p x y z o) = upd p x y z o := by
  cases o with
  | cells cur T fz => exact congrArg (fun c => Obj.cells c T fz) (set3_idem cur p x y z)
  | _ => rfl
/-- A world in which nothing has turned but, perhaps, one row, at one place. -/
structure AppR (hb : Option Nat) (p : Nat) (x y z : Value) (w w' : World) : Prop where
  os : w'.os = w.os
  tape : w'.tape = w.tape
  output : w'.output = w.output
  size : w.heap.size ≤ w'.heap.size
  block : ∀ k, k < w.heap.size → w'.heap[k]? = w.heap[k]? ∨ some k = hb ∧ w'.heap[k]? = (w.heap[k]?).map (upd p x y z)
theorem AppR.refl {hb : Option Nat} {p : Nat} {x y z : Value} (w : World) : AppR hb p x y z w w := ⟨rfl, rfl, rfl, Nat.le_refl _, fun _ _ => .inl rfl⟩
theorem AppR.trans {hb : Option Nat} {p : Nat} {x y z : Value} {a b c : World} (h : AppR hb p x y z a b) (k : AppR hb p x y z b c) : AppR hb p x y z a c := by
  refine ⟨k.os.trans h.os, k.tape.trans h.tape, k.output.trans h.output, Nat.le_trans h.size k.size, fun i hi => ?_⟩
  rcases k.block i (Nat.lt_of_lt_of_le hi h.size) with e | ⟨e, f⟩
  · rcases h.block i hi with e' | ⟨e', f'⟩
    · exact .inl (e.trans e')
    · exact .inr ⟨e', e.trans f'⟩
  · rcases h.block i hi with e' | ⟨e', f'⟩
    · exact .inr ⟨e, by rw [f, e']⟩
    · refine .inr ⟨e, ?_⟩
      rw [f, f', Option.map_map]
      congr 1
      funext o
      exact upd_upd ..
theorem AppR.of_ext {hb : Option Nat} {p : Nat} {x y z : Value} {w w' : World} (h : Ext w w') : AppR hb p x y z w w' := ⟨h.os, h.tape, h.output, h.size, fun k hk => .inl (h.block k hk)⟩
/-- A row whose first cells do not reach the place stays. -/
theorem AppR.row {hb : Option Nat} {p : Nat} {x y z : Value} {w w' : World} (h : AppR hb p x y z w w') {base E sz n : Nat} {v : Value} {xs : List Value} (ho : w.ownsRow base E sz v n xs)
    (hs : ∀ g, v.ownBlock = some g → some g = hb → xs.length ≤ p ∨ (p + 3 = xs.length ∧ xs[p]? = some x ∧ xs[p + 1]? = some y ∧ xs[p + 2]? = some z)) : w'.ownsRow base E sz v n xs := by
  refine ⟨ho.1, ?_⟩
  rcases ho.2 with hn | ⟨g, cap, cur, rfl, hb', hgg, b4, b5, b6, b7⟩
  · exact .inl hn
  · rcases h.block g (Array.getElem?_eq_some_iff.1 hgg).1 with e | ⟨e, f⟩
    · exact .inr ⟨g, cap, cur, rfl, hb', by rw [e]; exact hgg, b4, b5, b6, b7⟩
    · subst e
      refine .inr ⟨g, cap, _, rfl, hb', by rw [f, hgg]; rfl, b4, b5, by simpa using b6, ?_⟩
      rw [← b7] at hs ⊢
      have hle : n * sz ≤ cur.size := by rw [b6]; exact Nat.mul_le_mul_right _ b4
      apply List.ext_getElem?
      intro i
      simp only [List.getElem?_take, Array.getElem?_toList]
      split
      · rename_i hi
        rcases hs _ rfl rfl with h1 | ⟨h1, h2, h3, h4⟩
        · rw [List.length_take, Array.length_toList] at h1
          rw [Array.getElem?_setIfInBounds_ne (by omega), Array.getElem?_setIfInBounds_ne (by omega), Array.getElem?_setIfInBounds_ne (by omega)]
        · rw [List.length_take, Array.length_toList] at h1
          simp only [List.getElem?_take, Array.getElem?_toList] at h2 h3 h4
          rw [if_pos (by omega)] at h2 h3 h4
          simp only [Array.getElem?_setIfInBounds, Array.size_setIfInBounds]
          repeat' split
          all_goals first | rfl | omega | (subst_vars; simp_all)
      · rfl
/-- One new entry, in a block of its own. -/
def PB (b0 T : Nat) (l : Value) (n : Int) (W : World) (v : Value) : Prop := ∃ b, v = .slice (some ⟨b, 0, none⟩) 1 1 ∧ b0 ≤ b ∧ W.heap[b]? = some (.cells #[l, .slice none 0 0, .int .i64 n] T)
/-- The Book's list with one entry more. -/
def PA (base T b0 : Nat) (o : Option Nat) (es : List Ent) (W : World) (v : Value) : Prop := Own3 base T W v es ∧ (v.ownBlock = o ∨ ∃ b, v.ownBlock = some b ∧ b0 ≤ b)
theorem PB.stable {b0 T : Nat} {l : Value} {n : Int} {o : Option Nat} {p : Nat} {x y z : Value} (ho : ∀ g, o = some g → g < b0) {W W' : World} {v : Value} (h : AppR o p x y z W W') (hp : PB b0 T l n W v) : PB b0 T l n W' v := by
  obtain ⟨b, h1, h2, h3⟩ := hp
  refine ⟨b, h1, h2, ?_⟩
  rw [(h.block b (Array.getElem?_eq_some_iff.1 h3).1).resolve_right fun e => by have := ho b e.1.symm; omega]
  exact h3
theorem PA.stable {base T b0 : Nat} {o : Option Nat} {es : List Ent} {e : Ent} {W W' : World} {v : Value} (h : AppR o (es.length * 3) e.l (.slice none 0 0) (.int .i64 e.n) W W') (hp : PA base T b0 o (es ++ [e]) W v) : PA base T b0 o (es ++ [e]) W' v := by
  obtain ⟨h1, h2⟩ := hp
  refine ⟨h.row h1 fun g _ _ => .inr ?_, h2⟩
  obtain ⟨e1, e2, e3⟩ := entCells_get (es ++ [e]) es.length (by simp)
  rw [entCells_length]
  refine ⟨by simp; omega, ?_, e2, ?_⟩
  · rw [e1]; simp
  · rw [e3]; simp
theorem Own3.stable {base T : Nat} {s : Value} {es : List Ent} {W W' : World} {x y z : Value} (h : AppR s.ownBlock (es.length * 3) x y z W W') (hp : Own3 base T W s es) : Own3 base T W' s es :=
  h.row hp fun g _ _ => .inl (by rw [entCells_length]; exact Nat.le_refl _)
theorem Own3.shape {base T : Nat} {w : World} {v : Value} {es : List Ent} (h : Own3 base T w v es) : ∃ a c, v = .slice a es.length c := by
  rcases h.2 with ⟨rfl, h0⟩ | ⟨g, cap, cur, rfl, _⟩
  · exact ⟨none, 0, by rw [h0]⟩
  · exact ⟨_, _, rfl⟩
end Go.Proofs.YtkkfgphcmnhabaaGreatDoor
namespace Go.Proofs.YtkkfgphcmnhabaaGreatDoor
set_option maxRecDepth 100000
open Go Go.RowKit Go.Proofs
/-- A block that is neither the Book's own nor its list's. -/
def Safe (bk : Nat) (w : World) (k : Nat) : Prop := k ≠ bk ∧ ∀ a n c, w.cell? ⟨bk, 1, none⟩ = some (.slice a n c) → (Value.slice a n c).ownBlock ≠ some k
/-- All such blocks are as they were. -/
structure Kp (bk : Nat) (w w' : World) : Prop where
  size : w.heap.size ≤ w'.heap.size
  keep : ∀ k, k < w.heap.size → Safe bk w k → w'.heap[k]? = w.heap[k]? ∧ Safe bk w' k
theorem Kp.trans {bk : Nat} {a b c : World} (h : Kp bk a b) (k : Kp bk b c) : Kp bk a c :=
  ⟨Nat.le_trans h.size k.size, fun i hi hs => by
    obtain ⟨h1, h2⟩ := h.keep i hi hs
    obtain ⟨k1, k2⟩ := k.keep i (Nat.lt_of_lt_of_le hi h.size) h2
    exact ⟨k1.trans h1, k2⟩⟩
theorem Kp.of_ext {bk : Nat} {w w' : World} (hb : bk < w.heap.size) (e : Ext w w') : Kp bk w w' :=
  ⟨e.size, fun k hk hs => ⟨e.block k hk, hs.1, fun a n c h => hs.2 a n c ((World.cell?_of_block (e.block bk hb)).symm.trans h)⟩⟩
theorem Kp.blk {bk k : Nat} {w w' : World} {o : Obj} (h : Kp bk w w') (hk : w.heap[k]? = some o) (hs : Safe bk w k) : w'.heap[k]? = some o := (h.keep k (Array.getElem?_eq_some_iff.1 hk).1 hs).1.trans hk
end Go.Proofs.YtkkfgphcmnhabaaGreatDoor
namespace Go.Proofs.YtkkfgphcmnhabaaGreatDoor
set_option maxRecDepth 100000
open Go Go.RowKit Go.Proofs
/-- Are two raw numbers alike? -/
def eqI (b b' : Bool) (l l' : List Nat) : Bool := decide (b = b' ∧ l = l')
theorem eqI_self (b : Bool) (l : List Nat) : eqI b b l l = true := by simp [eqI]
/-- A raw fraction's two rows. -/
def RawL (w : World) (b1 : Bool) (a1 : Option Addr) (l1 : List Nat) (c1 : Nat) (b2 : Bool) (a2 : Option Addr) (l2 : List Nat) (c2 : Nat) : Prop :=
  l1.length ≤ 4294967296 ∧ l2.length ≤ 4294967296 ∧ AnyR w (.agg #[.bool b1, .slice a1 l1.length c1]) b1 l1 ∧ AnyR w (.agg #[.bool b2, .slice a2 l2.length c2]) b2 l2
theorem RawL.ext {w w' : World} {b1 : Bool} {a1 : Option Addr} {l1 : List Nat} {c1 : Nat} {b2 : Bool} {a2 : Option Addr} {l2 : List Nat} {c2 : Nat} (h : RawL w b1 a1 l1 c1 b2 a2 l2 c2) (e : Ext w w') : RawL w' b1 a1 l1 c1 b2 a2 l2 c2 := ⟨h.1, h.2.1, h.2.2.1.ext e, h.2.2.2.ext e⟩
theorem RawL.zero (w : World) : RawL w false none [] 0 false none [] 0 := by
  have h : AnyR w (.agg #[.bool false, .slice none 0 0]) false [] := ⟨none, 0, rfl, okL_nil, Nat.le_refl _, row_nil w⟩
  exact ⟨Nat.zero_le _, Nat.zero_le _, h, h⟩
set_option maxRecDepth 100000 in
set_option maxHeartbeats 3200000 in
theorem sameFrac_l (b1 : Bool) (a1 : Option Addr) (l1 : List Nat) (c1 : Nat) (b2 : Bool) (a2 : Option Addr) (l2 : List Nat) (c2 : Nat) (b1' : Bool) (a1' : Option Addr) (l1' : List Nat) (c1' : Nat) (b2' : Bool) (a2' : Option Addr) (l2' : List Nat) (c2' : Nat) (w : World) (h : RawL w b1 a1 l1 c1 b2 a2 l2 c2) (h' : RawL w b1' a1' l1' c1' b2' a2' l2' c2') :
    Calls Tryz.prog 65 #[.agg #[.bool b1, .slice a1 l1.length c1, .bool b2, .slice a2 l2.length c2], .agg #[.bool b1', .slice a1' l1'.length c1', .bool b2', .slice a2' l2'.length c2']] w fun e w' => e = .returned (.bool (eqI b1 b1' l1 l1' && eqI b2 b2' l2 l2')) ∧ Ext w w' := by
  have k1 := mkHid (fun W (e : Ext w W) => sameInt_c _ _ b1 b1' l1 l1' W h.1 h'.1 (h.2.2.1.ext e) (h'.2.2.1.ext e))
  have k2 := mkHid (fun W (e : Ext w W) => sameInt_c _ _ b2 b2' l2 l2' W h.2.1 h'.2.1 (h.2.2.2.ext e) (h'.2.2.2.ext e))
  clear h h'
  change Hid (∀ W (e : Ext w W), Calls _ _ _ _ fun e w' => e = .returned (.bool (eqI b1 b1' l1 l1')) ∧ _) at k1
  change Hid (∀ W (e : Ext w W), Calls _ _ _ _ fun e w' => e = .returned (.bool (eqI b2 b2' l2 l2')) ∧ _) at k2
  generalize eqI b1 b1' l1 l1' = r1 at *
  generalize eqI b2 b2' l2 l2' = r2 at *
  generalize l1.length = n1 at *
  generalize l2.length = n2 at *
  generalize l1'.length = n1' at *
  generalize l2'.length = n2' at *
  obtain ⟨wb, hwb⟩ : ∃ wb, wb = (w.alloc (.cells #[.bool b1, .slice a1 n1 c1, .bool b2, .slice a2 n2 c2] 34)).alloc (.cells #[.bool b1', .slice a1' n1' c1', .bool b2', .slice a2' n2' c2'] 34) := ⟨_, rfl⟩
  have hE : Ext w wb := by rw [hwb]; exact ((Ext.refl w).al _).al _
  have z0 : wb.heap[w.heap.size]? = some (.cells #[.bool b1, .slice a1 n1 c1, .bool b2, .slice a2 n2 c2] 34 (0, 0)) := by rw [hwb]; exact (heap_alloc_old _ _ (by simp)).trans (heap_alloc_new _ _)
  have z1 : wb.heap[w.heap.size + 1]? = some (.cells #[.bool b1', .slice a1' n1' c1', .bool b2', .slice a2' n2' c2'] 34 (0, 0)) := by rw [hwb]; exact heap_at _ _ _ (by simp)
  replace hwb := mkHid hwb
  replace z0 := mkHid z0
  replace z1 := mkHid z1
  replace hE := mkHid hE
  go_enter Tryz.func65, Tryz.ntmps65
  go_wp2_with fail
  rw [← hwb.out]
  clear hwb
  refine (k1.out _ hE.out).mono ?_
  rintro e w1 ⟨rfl, hE1⟩
  replace z0 := mkHid (hE1.blk z0.out)
  replace z1 := mkHid (hE1.blk z1.out)
  replace hE := mkHid (hE.out.trans hE1)
  clear hE1
  cases r1
  · go_wp2_with fail
    go_ret
    exact ⟨rfl, hE.out⟩
  · have y2 : w1.cell? ⟨w.heap.size, 2, none⟩ = some (.bool b2) := row16_cells z0.out 2
    have x2 : w1.cell? ⟨w.heap.size + 1, 2, none⟩ = some (.bool b2') := row16_cells z1.out 2
    have y3 : w1.cell? ⟨w.heap.size, 3, none⟩ = some (.slice a2 n2 c2) := row16_cells z0.out 3
    have x3 : w1.cell? ⟨w.heap.size + 1, 3, none⟩ = some (.slice a2' n2' c2') := row16_cells z1.out 3
    go_wp2_with fail
    clear x2 y2 x3 y3
    refine (k2.out _ hE.out).mono ?_
    rintro e w2 ⟨rfl, hE2⟩
    replace z0 := mkHid (hE2.blk z0.out)
    replace z1 := mkHid (hE2.blk z1.out)
    replace hE := mkHid (hE.out.trans hE2)
    clear hE2
    go_wp2_with fail
    go_ret
    exact ⟨rfl, hE.out⟩
set_option maxRecDepth 100000 in
set_option maxHeartbeats 3200000 in
theorem sameElement_l (kd kd' : Int) (b1 : Bool) (a1 : Option Addr) (l1 : List Nat) (c1 : Nat) (b2 : Bool) (a2 : Option Addr) (l2 : List Nat) (c2 : Nat) (b3 : Bool) (a3 : Option Addr) (l3 : List Nat) (c3 : Nat) (b4 : Bool) (a4 : Option Addr) (l4 : List Nat) (c4 : Nat) (b1' : Bool) (a1' : Option Addr) (l1' : List Nat) (c1' : Nat) (b2' : Bool) (a2' : Option Addr) (l2' : List Nat) (c2' : Nat) (b3' : Bool) (a3' : Option Addr) (l3' : List Nat) (c3' : Nat) (b4' : Bool) (a4' : Option Addr) (l4' : List Nat) (c4' : Nat) (w : World) (h1 : RawL w b1 a1 l1 c1 b2 a2 l2 c2) (h2 : RawL w b3 a3 l3 c3 b4 a4 l4 c4) (h1' : RawL w b1' a1' l1' c1' b2' a2' l2' c2') (h2' : RawL w b3' a3' l3' c3' b4' a4' l4' c4') :
    Calls Tryz.prog 31 #[.agg #[.int .u8 kd, .bool b1, .slice a1 l1.length c1, .bool b2, .slice a2 l2.length c2, .bool b3, .slice a3 l3.length c3, .bool b4, .slice a4 l4.length c4], .agg #[.int .u8 kd', .bool b1', .slice a1' l1'.length c1', .bool b2', .slice a2' l2'.length c2', .bool b3', .slice a3' l3'.length c3', .bool b4', .slice a4' l4'.length c4']] w fun e w' => e = .returned (.bool ((kd == kd') && (eqI b1 b1' l1 l1' && eqI b2 b2' l2 l2' && (eqI b3 b3' l3 l3' && eqI b4 b4' l4 l4')))) ∧ Ext w w' := by
  have k1 := mkHid (fun W (e : Ext w W) => sameFrac_l b1 a1 l1 c1 b2 a2 l2 c2 b1' a1' l1' c1' b2' a2' l2' c2' W (h1.ext e) (h1'.ext e))
  have k2 := mkHid (fun W (e : Ext w W) => sameFrac_l b3 a3 l3 c3 b4 a4 l4 c4 b3' a3' l3' c3' b4' a4' l4' c4' W (h2.ext e) (h2'.ext e))
  clear h1 h2 h1' h2'
  generalize (eqI b1 b1' l1 l1' && eqI b2 b2' l2 l2') = r1 at *
  generalize (eqI b3 b3' l3 l3' && eqI b4 b4' l4 l4') = r2 at *
  generalize l1.length = n1 at *
  generalize l1'.length = n1' at *
  generalize l2.length = n2 at *
  generalize l2'.length = n2' at *
  generalize l3.length = n3 at *
  generalize l3'.length = n3' at *
  generalize l4.length = n4 at *
  generalize l4'.length = n4' at *
  obtain ⟨wb, hwb⟩ : ∃ wb, wb = (w.alloc (.cells #[.int .u8 kd, .bool b1, .slice a1 n1 c1, .bool b2, .slice a2 n2 c2, .bool b3, .slice a3 n3 c3, .bool b4, .slice a4 n4 c4] 36)).alloc (.cells #[.int .u8 kd', .bool b1', .slice a1' n1' c1', .bool b2', .slice a2' n2' c2', .bool b3', .slice a3' n3' c3', .bool b4', .slice a4' n4' c4'] 36) := ⟨_, rfl⟩
  have hE : Ext w wb := by rw [hwb]; exact ((Ext.refl w).al _).al _
  have z0 : wb.heap[w.heap.size]? = some (.cells #[.int .u8 kd, .bool b1, .slice a1 n1 c1, .bool b2, .slice a2 n2 c2, .bool b3, .slice a3 n3 c3, .bool b4, .slice a4 n4 c4] 36 (0, 0)) := by rw [hwb]; exact (heap_alloc_old _ _ (by simp)).trans (heap_alloc_new _ _)
  have z1 : wb.heap[w.heap.size + 1]? = some (.cells #[.int .u8 kd', .bool b1', .slice a1' n1' c1', .bool b2', .slice a2' n2' c2', .bool b3', .slice a3' n3' c3', .bool b4', .slice a4' n4' c4'] 36 (0, 0)) := by rw [hwb]; exact heap_at _ _ _ (by simp)
  replace hwb := mkHid hwb
  replace z0 := mkHid z0
  replace z1 := mkHid z1
  replace hE := mkHid hE
  obtain ⟨rk, hrk⟩ : ∃ r, r = (kd == kd') := ⟨_, rfl⟩
  rw [← hrk]
  cases rk
  · have hne : (kd == kd') = false := hrk.symm
    clear hrk
    go_enter Tryz.func31, Tryz.ntmps31
    go_wp2_with fail
    rw [← hwb.out]
    go_ret
    exact ⟨rfl, hE.out⟩
  have hkk : kd = kd' := by simpa using hrk.symm
  subst hkk
  clear hrk
  go_enter Tryz.func31, Tryz.ntmps31
  go_wp2_with fail
  rw [← hwb.out]
  clear hwb
  refine (k1.out _ hE.out).mono ?_
  rintro e w1 ⟨rfl, hE1⟩
  replace z0 := mkHid (hE1.blk z0.out)
  replace z1 := mkHid (hE1.blk z1.out)
  replace hE := mkHid (hE.out.trans hE1)
  clear hE1
  cases r1
  · go_wp2_with fail
    go_ret
    exact ⟨rfl, hE.out⟩
  · have y5 : w1.cell? ⟨w.heap.size, 5, none⟩ = some (.bool b3) := row16_cells z0.out 5
    have x5 : w1.cell? ⟨w.heap.size + 1, 5, none⟩ = some (.bool b3') := row16_cells z1.out 5
    have y6 : w1.cell? ⟨w.heap.size, 6, none⟩ = some (.slice a3 n3 c3) := row16_cells z0.out 6
    have x6 : w1.cell? ⟨w.heap.size + 1, 6, none⟩ = some (.slice a3' n3' c3') := row16_cells z1.out 6
    have y7 : w1.cell? ⟨w.heap.size, 7, none⟩ = some (.bool b4) := row16_cells z0.out 7
    have x7 : w1.cell? ⟨w.heap.size + 1, 7, none⟩ = some (.bool b4') := row16_cells z1.out 7
    have y8 : w1.cell? ⟨w.heap.size, 8, none⟩ = some (.slice a4 n4 c4) := row16_cells z0.out 8
    have x8 : w1.cell? ⟨w.heap.size + 1, 8, none⟩ = some (.slice a4' n4' c4') := row16_cells z1.out 8
    go_wp2_with fail
    clear x5 y5 x6 y6 x7 y7 x8 y8
    refine (k2.out _ hE.out).mono ?_
    rintro e w2 ⟨rfl, hE2⟩
    replace z0 := mkHid (hE2.blk z0.out)
    replace z1 := mkHid (hE2.blk z1.out)
    replace hE := mkHid (hE.out.trans hE2)
    clear hE2
    go_wp2_with fail
    go_ret
    exact ⟨rfl, hE.out⟩
set_option maxRecDepth 100000 in
set_option maxHeartbeats 3200000 in
theorem samePart_l (nm nm' : ByteArray) (kd kd' co co' : Int) (b1 : Bool) (a1 : Option Addr) (l1 : List Nat) (c1 : Nat) (b2 : Bool) (a2 : Option Addr) (l2 : List Nat) (c2 : Nat) (b3 : Bool) (a3 : Option Addr) (l3 : List Nat) (c3 : Nat) (b4 : Bool) (a4 : Option Addr) (l4 : List Nat) (c4 : Nat) (b1' : Bool) (a1' : Option Addr) (l1' : List Nat) (c1' : Nat) (b2' : Bool) (a2' : Option Addr) (l2' : List Nat) (c2' : Nat) (b3' : Bool) (a3' : Option Addr) (l3' : List Nat) (c3' : Nat) (b4' : Bool) (a4' : Option Addr) (l4' : List Nat) (c4' : Nat) (w : World) (h1 : RawL w b1 a1 l1 c1 b2 a2 l2 c2) (h2 : RawL w b3 a3 l3 c3 b4 a4 l4 c4) (h1' : RawL w b1' a1' l1' c1' b2' a2' l2' c2') (h2' : RawL w b3' a3' l3' c3' b4' a4' l4' c4') :
    Calls Tryz.prog 10 #[.agg #[.string nm, .int .u8 kd, .bool b1, .slice a1 l1.length c1, .bool b2, .slice a2 l2.length c2, .bool b3, .slice a3 l3.length c3, .bool b4, .slice a4 l4.length c4, .int .i64 co], .agg #[.string nm', .int .u8 kd', .bool b1', .slice a1' l1'.length c1', .bool b2', .slice a2' l2'.length c2', .bool b3', .slice a3' l3'.length c3', .bool b4', .slice a4' l4'.length c4', .int .i64 co']] w fun e w' => e = .returned (.bool ((nm.toList == nm'.toList) && ((kd == kd') && (eqI b1 b1' l1 l1' && eqI b2 b2' l2 l2' && (eqI b3 b3' l3 l3' && eqI b4 b4' l4 l4'))) && (co == co'))) ∧ Ext w w' := by
  have k1 := mkHid (fun W (e : Ext w W) => sameElement_l kd kd' b1 a1 l1 c1 b2 a2 l2 c2 b3 a3 l3 c3 b4 a4 l4 c4 b1' a1' l1' c1' b2' a2' l2' c2' b3' a3' l3' c3' b4' a4' l4' c4' W (h1.ext e) (h2.ext e) (h1'.ext e) (h2'.ext e))
  clear h1 h2 h1' h2'
  generalize ((kd == kd') && (eqI b1 b1' l1 l1' && eqI b2 b2' l2 l2' && (eqI b3 b3' l3 l3' && eqI b4 b4' l4 l4'))) = r1 at *
  generalize l1.length = n1 at *
  generalize l1'.length = n1' at *
  generalize l2.length = n2 at *
  generalize l2'.length = n2' at *
  generalize l3.length = n3 at *
  generalize l3'.length = n3' at *
  generalize l4.length = n4 at *
  generalize l4'.length = n4' at *
  obtain ⟨wb, hwb⟩ : ∃ wb, wb = (w.alloc (.cells #[.string nm, .int .u8 kd, .bool b1, .slice a1 n1 c1, .bool b2, .slice a2 n2 c2, .bool b3, .slice a3 n3 c3, .bool b4, .slice a4 n4 c4, .int .i64 co] 38)).alloc (.cells #[.string nm', .int .u8 kd', .bool b1', .slice a1' n1' c1', .bool b2', .slice a2' n2' c2', .bool b3', .slice a3' n3' c3', .bool b4', .slice a4' n4' c4', .int .i64 co'] 38) := ⟨_, rfl⟩
  have hE : Ext w wb := by rw [hwb]; exact ((Ext.refl w).al _).al _
  have z0 : wb.heap[w.heap.size]? = some (.cells #[.string nm, .int .u8 kd, .bool b1, .slice a1 n1 c1, .bool b2, .slice a2 n2 c2, .bool b3, .slice a3 n3 c3, .bool b4, .slice a4 n4 c4, .int .i64 co] 38 (0, 0)) := by rw [hwb]; exact (heap_alloc_old _ _ (by simp)).trans (heap_alloc_new _ _)
  have z1 : wb.heap[w.heap.size + 1]? = some (.cells #[.string nm', .int .u8 kd', .bool b1', .slice a1' n1' c1', .bool b2', .slice a2' n2' c2', .bool b3', .slice a3' n3' c3', .bool b4', .slice a4' n4' c4', .int .i64 co'] 38 (0, 0)) := by rw [hwb]; exact heap_at _ _ _ (by simp)
  replace hwb := mkHid hwb
  replace z0 := mkHid z0
  replace z1 := mkHid z1
  replace hE := mkHid hE
  obtain ⟨rk, hrk⟩ : ∃ r, r = (nm.toList == nm'.toList) := ⟨_, rfl⟩
  rw [← hrk]
  cases rk
  · have hne : (nm.toList == nm'.toList) = false := hrk.symm
    clear hrk
    go_enter Tryz.func10, Tryz.ntmps10
    go_wp2_with fail
    rw [← hwb.out]
    go_ret
    exact ⟨rfl, hE.out⟩
  have hkk : (nm.toList == nm'.toList) = true := hrk.symm
  clear hrk
  go_enter Tryz.func10, Tryz.ntmps10
  go_wp2_with fail
  rw [← hwb.out]
  clear hwb
  refine (k1.out _ hE.out).mono ?_
  rintro e w1 ⟨rfl, hE1⟩
  replace z0 := mkHid (hE1.blk z0.out)
  replace z1 := mkHid (hE1.blk z1.out)
  replace hE := mkHid (hE.out.trans hE1)
  clear hE1
  cases r1
  · go_wp2_with fail
    go_ret
    exact ⟨rfl, hE.out⟩
  · have y10 : w1.cell? ⟨w.heap.size, 10, none⟩ = some (.int .i64 co) := row16_cells z0.out 10
    have x10 : w1.cell? ⟨w.heap.size + 1, 10, none⟩ = some (.int .i64 co') := row16_cells z1.out 10
    go_wp2_with fail
    go_ret
    exact ⟨rfl, hE.out⟩
end Go.Proofs.YtkkfgphcmnhabaaGreatDoor
namespace Go.Proofs.YtkkfgphcmnhabaaGreatDoor
set_option maxRecDepth 100000
open Go Go.RowKit Go.Proofs
theorem fr_load {P : Program} {S : World → Value → Prop} {o : Oper} {a : Act} {W : World} {X : Prop} {c : Prop} {ic : Decidable c} (hw : c) (ty : TypeId) (x : Operand) (ho : o.op = .load ty x)
    (g : Nat) (hx : a.eval x = .pointer (some ⟨g, 0, none⟩)) (t : TypeId) (cs : Array Value) (fr : Nat × Nat) (d : TypeDesc) (hg : W.heap[g]? = some (.cells cs t fr))
    (hu : P.underlying ty = some d) (hd : (match d with | .struct _ | .array _ _ => true | _ => false) = true) (hi : (P.info? ty).map (·.size) = some cs.size)
    (h : S W (.agg cs)) : if c then givesV P S ((execOp a.eval o).run P W) else X := by
  rw [if_pos hw]
  unfold execOp
  simp only [ho, hx, Instr.loadAt, Instr.sureAddr, Sem.run_bind, Sem.run_pure, Result.andThen_ok, run_loadVar_row W g t ty cs fr d hg hu hd hi]
  exact h
end Go.Proofs.YtkkfgphcmnhabaaGreatDoor
namespace Go.Proofs.YtkkfgphcmnhabaaGreatDoor
set_option maxRecDepth 100000
open Go Go.RowKit Go.Proofs
def okOperS (l : List Oper) (n i : Nat) (o : Oper) : Bool :=
  (o.after.toList.all fun e => !Region.binds .any e || decide (e.on < i)) &&
  (if i < n then
    (List.range l.length).all fun j => match l[j]? with
      | some oj => (match oj.dst with
        | some d => (!(o.looksAt l.toArray).contains d || (decide (j < i) && hasEdge o j) || decide (n ≤ j)) && (j == i || o.dst != some d)
        | none => true)
      | none => true
  else (List.range i).all fun j => ancB l 16 o j)
def okFreeS (n size : Nat) (l : List Oper) : Bool :=
  Region.noSelect l.toArray && decide (n ≤ l.length) && (l.all fun o => match o.dst with | some d => decide (d < size) | none => true) &&
    (List.range l.length).all fun i => match l[i]? with | some o => okOperS l n i o | none => true
section
variable {P : Program} {l0 : List Oper} {R : World → World → Prop} {w0 : World} {Q : Exit → Act → World → Prop}
structure OkSpecS (l : List Oper) (n size : Nat) : Prop where
  sel : ∀ (j : Nat) (o : Oper) cs b, l[j]? = some o → o.op ≠ .select cs b
  len : n ≤ l.length
  dst : ∀ (j : Nat) (o : Oper) (d : Tmp), l[j]? = some o → o.dst = some d → d < size
  edge : ∀ (i : Nat) (o : Oper), l[i]? = some o → ∀ e ∈ o.after, Region.binds .any e = true → e.on < i
  look : ∀ (i : Nat) (o : Oper) (j : Nat) (oj : Oper) (d : Tmp), i < n → l[i]? = some o → l[j]? = some oj → oj.dst = some d → d ∈ o.looksAt l.toArray → (j < i ∧ hasEdge o j = true) ∨ n ≤ j
  one : ∀ (i : Nat) (o : Oper) (j : Nat) (oj : Oper) (d : Tmp), i < n → l[i]? = some o → l[j]? = some oj → oj.dst = some d → i ≠ j → o.dst ≠ some d
  tail : ∀ (i : Nat) (o : Oper), n ≤ i → l[i]? = some o → ∀ j, j < i → ancB l 16 o j = true
theorem okFree_specS {n size : Nat} {l : List Oper} (h : okFreeS n size l = true) : OkSpecS l n size := by
  simp only [okFreeS, Bool.and_eq_true, decide_eq_true_eq, List.all_eq_true, List.mem_range] at h
  obtain ⟨⟨⟨h1, h2⟩, h3⟩, h4⟩ := h
  have at_ : ∀ i o, l[i]? = some o → okOperS l n i o = true := by
    intro i o ho
    have := h4 i (List.getElem?_eq_some_iff.1 ho).1
    rwa [ho] at this
  refine ⟨fun j o cs b hj => Region.noSelect_spec h1 j o cs b (by simpa using hj), h2, ?_, ?_, ?_, ?_, ?_⟩
  · intro j o d ho hd
    have := h3 o (List.mem_of_getElem? ho)
    simpa [hd] using this
  · intro i o ho e he hb
    have := at_ i o ho
    simp only [okOperS, Bool.and_eq_true, List.all_eq_true, Bool.or_eq_true, Bool.not_eq_true', decide_eq_true_eq] at this
    have := this.1 e (Array.mem_toList_iff.2 he)
    rcases this with h | h
    · rw [h] at hb; cases hb
    · exact h
  · intro i o j oj d hi ho hj hd hm
    have := at_ i o ho
    simp only [okOperS, Bool.and_eq_true, if_pos hi, List.all_eq_true, List.mem_range] at this
    have := this.2 j (List.getElem?_eq_some_iff.1 hj).1
    simp only [hj, hd, Bool.and_eq_true, Bool.or_eq_true, Bool.not_eq_true', decide_eq_true_eq] at this
    rcases this.1 with (h | h) | h
    · have := List.contains_iff_mem.2 hm
      rw [h] at this; cases this
    · exact .inl h
    · exact .inr h
  · intro i o j oj d hi ho hj hd hne
    have := at_ i o ho
    simp only [okOperS, Bool.and_eq_true, if_pos hi, List.all_eq_true, List.mem_range] at this
    have := this.2 j (List.getElem?_eq_some_iff.1 hj).1
    simp only [hj, hd, Bool.and_eq_true, Bool.or_eq_true, beq_iff_eq, bne_iff_ne, ne_eq] at this
    rcases this.2 with h | h
    · exact absurd h.symm hne
    · exact h
  · intro i o hi ho j hj
    have := at_ i o ho
    simp only [okOperS, Bool.and_eq_true, if_neg (Nat.not_lt.2 hi), List.all_eq_true, List.mem_range] at this
    exact this.2 j hj
/-- Where a region stands, whatever came first. -/
structure MidwayS (l : List Oper) (specs : List FSpec) (R : World → World → Prop) (w0 : World) (a0 : Act) (listed : Array Bool) (a : Act) (W : World) : Prop where
  size : listed.size = l.length
  rel : R w0 W
  defers : a.defers = a0.defers
  tsize : a.tmps.size = a0.tmps.size
  closed : ∀ (i : Nat) (o : Oper), listed.getD i false = true → l[i]? = some o → ∀ e ∈ o.after, Region.binds .any e = true → listed.getD e.on false = true
  other : ∀ (t : Tmp), (∀ (j : Nat) (o : Oper), l[j]? = some o → listed.getD j false = true → o.dst ≠ some t) → a.tmps[t]? = a0.tmps[t]?
  fact : ∀ (j : Nat) (o : Oper) (d : Tmp) (s : FSpec), listed.getD j false = true → l[j]? = some o → o.dst = some d → specs[j]? = some s → s.ok W (a.tmps.getD d undef)
  late : ∀ (j : Nat), specs.length ≤ j → listed.getD j false = false
  void : ∀ (j : Nat) (o : Oper) (s : FSpec), listed.getD j false = true → l[j]? = some o → o.dst = none → specs[j]? = some s → s.ok W undef
/-- What an operation without a slot tells does not hang on a value. -/
def VoidAll : List Oper → List FSpec → Prop
  | o :: l, s :: ss => (o.dst = none → ∀ W v, s.ok W v → s.ok W undef) ∧ VoidAll l ss
  | _, _ => True
theorem VoidAll.at_ : ∀ {l : List Oper} {ss : List FSpec} {j : Nat} {o : Oper} {s : FSpec}, VoidAll l ss → l[j]? = some o → ss[j]? = some s → o.dst = none → ∀ W v, s.ok W v → s.ok W undef
  | _ :: _, _ :: _, 0, _, _, h, h1, h2 => by
    simp at h1 h2
    subst h1 h2
    exact h.1
  | _ :: _, _ :: _, j + 1, _, _, h, h1, h2 => VoidAll.at_ (j := j) h.2 (by simpa using h1) (by simpa using h2)
  | [], _, _, _, _, _, h1, _ => by simp at h1
  | _ :: _, [], _, _, _, _, _, h2 => by simp at h2
theorem MidwayS.value {specs : List FSpec} {a0 a : Act} {listed : Array Bool} {W : World} (m : MidwayS l0 specs R w0 a0 listed a W) {j : Nat} {o : Oper} {d : Tmp} (hj : listed.getD j false = true) (ho : l0[j]? = some o) (hd : o.dst = some d) :
    a.tmps.getD d undef = valuesOf l0 specs a j := by
  have hlt : j < specs.length := by
    rcases Nat.lt_or_ge j specs.length with h | h
    · exact h
    · rw [m.late j h] at hj; cases hj
  have hs : specs[j]? = some specs[j] := List.getElem?_eq_getElem hlt
  have := m.fact j o d _ hj ho hd hs
  generalize specs[j] = s at this hs
  cases s with
  | val c => simp only [FSpec.ok] at this; simp [valuesOf, hs, this]
  | pred Φ => simp [valuesOf, hs, ho, hd]
theorem MidwayS.tmpS {specs : List FSpec} {a0 a : Act} {listed : Array Bool} {W : World} (m : MidwayS l0 specs R w0 a0 listed a W) (ok : OkSpecS l0 specs.length a0.tmps.size) (k t : Nat) (hk : k ≤ specs.length)
    (h : ∀ (j : Nat) (oj : Oper), l0[j]? = some oj → oj.dst = some t → (j < k ∧ listed.getD j false = true) ∨ specs.length ≤ j) : (frameAt a0 l0 (valuesOf l0 specs a) k).tmps[t]? = a.tmps[t]? := by
  by_cases hex : ∃ (j : Nat) (oj : Oper), l0[j]? = some oj ∧ oj.dst = some t
  · obtain ⟨j, oj, hj, hd⟩ := hex
    rcases h j oj hj hd with ⟨hjk, hlj⟩ | hge
    case inr =>
      have hfr : ∀ (i : Nat) (oi : Oper), i < specs.length → l0[i]? = some oi → oi.dst ≠ some t := fun i oi hi hoi => ok.one i oi j oj t hi hoi hj hd (by omega)
      rw [frameAt_other a0 l0 _ k t fun i oi hi hoi => hfr i oi (by omega) hoi]
      refine (m.other t fun i oi hoi hl => ?_).symm
      rcases Nat.lt_or_ge i specs.length with hi | hi
      · exact hfr i oi hi hoi
      · rw [m.late i hi] at hl; cases hl
    have ht := ok.dst j oj t hj hd
    rw [frameAt_own a0 l0 _ k t j oj hjk hj hd ht fun i o' hne ho' hd' => by
      rcases Nat.lt_or_ge i specs.length with hi | hi
      · exact ok.one i o' j oj t hi ho' hj hd hne hd'
      · exact ok.one j oj i o' t (by omega) hj ho' hd' (Ne.symm hne) hd]
    rw [← m.value hlj hj hd]
    have : t < a.tmps.size := by rw [m.tsize]; exact ht
    simp [this]
  · rw [frameAt_other a0 l0 _ k t fun j o _ ho hd => hex ⟨j, o, ho, hd⟩, m.other t fun j o ho _ hd => hex ⟨j, o, ho, hd⟩]
/-- One operation more, none of the tail. -/
theorem MidwayS.stepS {specs : List FSpec} {a0 a : Act} {listed : Array Bool} {W : World} (m : MidwayS l0 specs R w0 a0 listed a W) (ok : OkSpecS l0 specs.length a0.tmps.size) (hrf : ∀ a, R a a) (htr : ∀ a b c, R a b → R b c → R a c)
    (hst : ∀ s ∈ specs, ∀ W W' v, R W W' → s.ok W v → s.ok W' v) (hvo : VoidAll l0 specs) (h : freeSteps P l0 R w0 Q 0 specs l0 a0 []) {i : Nat} (hi : i < specs.length) (hr : i ∈ Region.ready .any l0.toArray listed) :
    wpOp P l0.toArray Q i (fun a' W' => MidwayS l0 specs R w0 a0 (listed.setIfInBounds i true) a' W') a W := by
  obtain ⟨hun, o, ho', hedge⟩ := mem_ready.1 hr
  have ho : l0[i]? = some o := by simpa using ho'
  have hil : i < l0.length := (List.getElem?_eq_some_iff.1 ho).1
  have hlt : i < listed.size := by rw [m.size]; exact hil
  have hat := steps_at h (valuesOf l0 specs a) (valuesOf_fits l0 specs a) i (by omega)
  rw [List.drop_eq_getElem_cons hi, List.drop_eq_getElem_cons hil] at hat
  have hs : specs[i]? = some specs[i] := List.getElem?_eq_getElem hi
  have hoi : l0[i] = o := by
    have := List.getElem?_eq_getElem hil
    rw [ho] at this
    exact (Option.some.inj this).symm
  rw [hoi] at hat
  have hfacts : ∀ p ∈ factsAt specs (valuesOf l0 specs a) i, leans l0 o p.1 = true → p.2.1.ok W p.2.2 := by
    intro p hp hl
    obtain ⟨h1, h2, h3⟩ := mem_factsAt hp
    unfold leans at hl
    split at hl
    · rename_i d hd
      obtain ⟨oj, hj, hdj⟩ := Option.bind_eq_some_iff.1 hd
      have hlook := (ok.look i o p.1 oj d hi ho hj hdj (List.contains_iff_mem.1 hl)).resolve_right (by omega)
      have hlj : listed.getD p.1 false = true := listed_anc (l0 := l0) m.closed 0 o p.1 hedge hlook.2
      have := m.fact p.1 oj d p.2.1 hlj hj hdj h2
      rw [h3, ← m.value hlj hj hdj]
      exact this
    · cases hl
  have hsame : ∀ t, t ∈ o.looksAt l0.toArray → (frameAt a0 l0 (valuesOf l0 specs a) i).tmps[t]? = a.tmps[t]? := by
    intro t ht
    refine m.tmpS ok i t (by omega) fun j oj hj hdj => ?_
    rcases ok.look i o j oj t hi ho hj hdj ht with hlook | hlook
    · exact .inl ⟨hlook.1, listed_anc (l0 := l0) m.closed 0 o j hedge hlook.2⟩
    · exact .inr hlook
  have hev : execOp (frameAt a0 l0 (valuesOf l0 specs a) i).eval o = execOp a.eval o := eval_of_tmps o (fun cs b => ok.sel i o cs b ho) hsame
  have hwa : Region.wanted o (yielded l0.toArray (frameAt a0 l0 (valuesOf l0 specs a) i).tmps) = Region.wanted o (yielded l0.toArray a.tmps) := wanted_of_tmps o hsame
  -- what is left to show of each value
  have next : ∀ W' v, R W W' → specs[i].ok W' v → MidwayS l0 specs R w0 a0 (listed.setIfInBounds i true) (a.put o.dst v) W' := by
    intro W' v hR hv
    refine ⟨by simpa using m.size, htr _ _ _ m.rel hR, ?_, ?_, ?_, ?_, ?_, ?_, ?_⟩
    · rw [← m.defers]; cases o.dst <;> rfl
    · rw [← m.tsize]; cases hd : o.dst <;> simp [Act.put]
    · intro j oj hj hoj e he hb
      by_cases hij : i = j
      · subst hij
        rw [ho] at hoj; cases hoj
        exact getD_set_true (hedge e he hb)
      · rw [getD_set_ne false hij] at hj
        exact getD_set_true (m.closed j oj hj hoj e he hb)
    · intro t ht
      have hne : o.dst ≠ some t := ht i o ho (by simp [hlt])
      rw [← m.other t fun j oj hoj hj => ht j oj hoj (by
        by_cases hij : i = j
        · subst hij; simp [hlt]
        · rw [getD_set_ne false hij]; exact hj)]
      cases hd : o.dst with
      | none => rfl
      | some d =>
        have : d ≠ t := fun e => hne (by rw [hd, e])
        simp [Act.put, Array.getElem?_setIfInBounds_ne this]
    · intro j oj d s hj hoj hdj hsj
      by_cases hij : i = j
      · subst hij
        rw [ho] at hoj; cases hoj
        rw [hs] at hsj; cases hsj
        have hsz : d < a.tmps.size := by rw [m.tsize]; exact ok.dst i _ d ho hdj
        simpa [Act.put, hdj, hsz] using hv
      · rw [getD_set_ne false hij] at hj
        have hf := m.fact j oj d s hj hoj hdj hsj
        have hf := hst s (List.mem_of_getElem? hsj) _ _ _ hR hf
        have hnd : o.dst ≠ some d := ok.one i o j oj d hi ho hoj hdj hij
        cases hd : o.dst with
        | none => simpa [Act.put] using hf
        | some e =>
          have : e ≠ d := fun e' => hnd (by rw [hd, e'])
          simpa [Act.put, Array.getElem?_setIfInBounds_ne this] using hf
    · intro j hj
      rw [getD_set_ne false (show i ≠ j by omega)]
      exact m.late j hj
    · intro j oj s hj hoj hdj hsj
      by_cases hij : i = j
      · subst hij
        rw [ho] at hoj; cases hoj
        rw [hs] at hsj; cases hsj
        exact hvo.at_ ho hs hdj _ _ hv
      · rw [getD_set_ne false hij] at hj
        exact hst s (List.mem_of_getElem? hsj) _ _ _ hR (m.void j oj s hj hoj hdj hsj)
  unfold wpOp
  simp only [List.getElem?_toArray, ho]
  generalize hsp : specs[i] = s at hat next
  cases s with
  | val c =>
    simp only [freeSteps] at hat
    have hone := hat.1 W m.rel (factsHold_of hfacts)
    rw [hwa, hev] at hone
    split
    · rename_i hw
      rw [if_pos hw] at hone
      refine .inl (upon_of_gives hone fun w' v hv => next _ _ hv.1 hv.2)
    · rename_i hw
      rw [if_neg hw] at hone
      exact next W undef (hrf W) hone
  | pred Φ =>
    simp only [freeSteps] at hat
    have hone := hat.1 W m.rel (factsHold_of hfacts)
    rw [hwa, hev] at hone
    split
    · rename_i hw
      rw [if_pos hw] at hone
      refine .inl (upon_of_gives hone fun w' v hv => next _ _ hv.1 hv.2)
    · rename_i hw
      rw [if_neg hw] at hone
      exact next W undef (hrf W) hone
/-- All of the front is done, and nothing else: the frame is the lexical walk's. -/
theorem MidwayS.doneS {specs : List FSpec} {a0 a : Act} {listed : Array Bool} {W : World} (m : MidwayS l0 specs R w0 a0 listed a W) (ok : OkSpecS l0 specs.length a0.tmps.size) (hall : ∀ j, j < specs.length → listed.getD j false = true) :
    a = frameAt a0 l0 (valuesOf l0 specs a) specs.length ∧ ∀ p ∈ factsAt specs (valuesOf l0 specs a) specs.length, p.2.1.ok W p.2.2 := by
  refine ⟨?_, fun p hp => ?_⟩
  · obtain ⟨tm, df⟩ := a
    have hdf := frameAt_defers a0 l0 (valuesOf l0 specs ⟨tm, df⟩) specs.length
    have htm : tm = (frameAt a0 l0 (valuesOf l0 specs ⟨tm, df⟩) specs.length).tmps := by
      refine Array.ext_getElem? fun t => ?_
      by_cases hex : ∃ (j : Nat) (oj : Oper), l0[j]? = some oj ∧ oj.dst = some t ∧ specs.length ≤ j
      · obtain ⟨j, oj, hj, hd, hge⟩ := hex
        by_cases hin : ∃ (i : Nat) (oi : Oper), l0[i]? = some oi ∧ oi.dst = some t ∧ i < specs.length
        · obtain ⟨i, oi, hi, hdi, hlt⟩ := hin
          exact absurd hdi (ok.one i oi j oj t hlt hi hj hd (by omega))
        · rw [frameAt_other a0 l0 _ _ t fun i o hi ho hd' => hin ⟨i, o, ho, hd', hi⟩]
          refine m.other t fun i o ho hl hd' => ?_
          rcases Nat.lt_or_ge i specs.length with h | h
          · exact hin ⟨i, o, ho, hd', h⟩
          · rw [m.late i h] at hl; cases hl
      · refine (m.tmpS ok specs.length t (Nat.le_refl _) fun j oj hj hd => ?_).symm
        have hlt : j < specs.length := by
          rcases Nat.lt_or_ge j specs.length with h | h
          · exact h
          · exact absurd ⟨j, oj, hj, hd, h⟩ hex
        exact .inl ⟨hlt, hall j hlt⟩
    have h1 : (frameAt a0 l0 (valuesOf l0 specs ⟨tm, df⟩) specs.length).defers = df := by rw [hdf, ← m.defers]
    generalize frameAt a0 l0 (valuesOf l0 specs ⟨tm, df⟩) specs.length = f at htm h1
    obtain ⟨ft, fd⟩ := f
    simp only at htm h1
    rw [htm, h1]
  · obtain ⟨h1, h2, h3⟩ := mem_factsAt hp
    have hil : p.1 < l0.length := by have := ok.len; omega
    have ho : l0[p.1]? = some l0[p.1] := List.getElem?_eq_getElem hil
    rw [h3]
    cases hd : l0[p.1].dst with
    | some d =>
      rw [← m.value (hall p.1 h1) ho hd]
      exact m.fact p.1 _ d _ (hall p.1 h1) ho hd h2
    | none =>
      have hv := m.void p.1 _ _ (hall p.1 h1) ho hd h2
      have he : valuesOf l0 specs a p.1 = undef ∨ ∃ c, p.2.1 = .val c := by
        cases hq : p.2.1 with
        | val c => exact .inr ⟨c, rfl⟩
        | pred Φ => exact .inl (by simp [valuesOf, h2, hq, ho, hd])
      rcases he with he | ⟨c, he⟩
      · rw [he]; exact hv
      · rw [he] at h2
        have hc : valuesOf l0 specs a p.1 = c := by simp [valuesOf, h2]
        rw [hc, he]; rfl
theorem free_anyS {specs : List FSpec} {a0 : Act} (ok : OkSpecS l0 specs.length a0.tmps.size) (hrf : ∀ a, R a a) (htr : ∀ a b c, R a b → R b c → R a c)
    (hst : ∀ s ∈ specs, ∀ W W' v, R W W' → s.ok W v → s.ok W' v) (hvo : VoidAll l0 specs) (h : freeSteps P l0 R w0 Q 0 specs l0 a0 []) :
    ∀ (fuel : Nat) (listed : Array Bool) (a : Act) (W : World), left l0 listed ≤ fuel → MidwayS l0 specs R w0 a0 listed a W → wpAny P .any l0.toArray Q fuel listed a W := by
  have fin : ∀ (listed : Array Bool) (a : Act) (W : World), MidwayS l0 specs R w0 a0 listed a W → (∀ j, j < specs.length → listed.getD j false = true) → wpList P l0.toArray Q (l0.drop specs.length) a W := by
    intro listed a W m hall
    obtain ⟨he, hf⟩ := m.doneS ok hall
    have hat := steps_at h (valuesOf l0 specs a) (valuesOf_fits l0 specs a) specs.length (Nat.le_refl _)
    rw [List.drop_length] at hat
    simp only [freeSteps] at hat
    have := hat W m.rel (factsHold_of fun p hp _ => hf p hp)
    rwa [← he] at this
  have hlst : ∀ (listed : Array Bool) (a : Act) (W : World), MidwayS l0 specs R w0 a0 listed a W → (∀ j, j < specs.length → listed.getD j false = true) → ∀ i, i < l0.length → (listed.getD i false = true ↔ i < specs.length) := by
    intro listed a W m hall i hi
    constructor
    · intro hl
      rcases Nat.lt_or_ge i specs.length with h | h
      · exact h
      · rw [m.late i h] at hl; cases hl
    · exact hall i
  intro fuel
  induction fuel with
  | zero =>
    intro listed a W hl m
    have hnone : ∀ i, i < l0.length → listed.getD i true = true := by
      intro i hi
      have h0 : ((List.range l0.length).filter fun i => !listed.getD i true) = [] := List.eq_nil_of_length_eq_zero (by unfold left at hl; omega)
      have := List.filter_eq_nil_iff.1 h0 i (List.mem_range.2 hi)
      simpa using this
    have hall : ∀ j, j < specs.length → listed.getD j false = true := by
      intro j hj
      have h1 := hnone j (by have := ok.len; omega)
      rcases listed_cases (listed := listed) (i := j) (by rw [m.size]; have := ok.len; omega) with h2 | h2
      · exact h2
      · rw [h2] at h1; cases h1
    have hn : specs.length = l0.length := by
      rcases Nat.lt_or_ge specs.length l0.length with h1 | h1
      · have h2 := hnone specs.length h1
        have h3 := m.late specs.length (Nat.le_refl _)
        rcases listed_cases (listed := listed) (i := specs.length) (by rw [m.size]; exact h1) with h4 | h4
        · rw [h4] at h3; cases h3
        · rw [h4] at h2; cases h2
      · have := ok.len; omega
    exact tail_forced ok.tail 0 specs.length listed a W 0 (Nat.le_refl _) hn (Nat.le_refl _) m.size m.closed (hlst _ _ _ m hall) ok.edge (fin _ _ _ m hall)
  | succ fuel ih =>
    intro listed a W hl m
    by_cases hall : ∀ j, j < specs.length → listed.getD j false = true
    · refine tail_forced ok.tail (l0.length - specs.length) specs.length listed a W (fuel + 1) (Nat.le_refl _) (by have := ok.len; omega) ?_ m.size m.closed (hlst _ _ _ m hall) ok.edge (fin _ _ _ m hall)
      have := left_ge (l := l0) (listed := listed) (n := specs.length) fun i h1 h2 => by
        have := m.late i h1
        have hlt : i < listed.size := by rw [m.size]; exact h2
        simpa [hlt] using this
      omega
    · refine ⟨fun h0 => ?_, fun i hi => ?_⟩
      · refine absurd (fun j => ?_) hall
        induction j using Nat.strongRecOn with
        | _ j ihj =>
          intro hj
          have hjl : j < l0.length := by have := ok.len; omega
          have hoj : l0[j]? = some l0[j] := List.getElem?_eq_getElem hjl
          rcases listed_cases (listed := listed) (i := j) (by rw [m.size]; exact hjl) with h1 | h1
          · exact h1
          · have hm : j ∈ Region.ready .any l0.toArray listed := mem_ready.2 ⟨h1, l0[j], by simp [hjl], fun e he hb => by
              have := ok.edge j _ hoj e he hb
              exact ihj e.on this (by omega)⟩
            rw [h0] at hm
            cases hm
      · obtain ⟨hun, o, ho', hedge⟩ := mem_ready.1 hi
        have hil : i < l0.length := by have := lt_of_unlisted hun; rw [m.size] at this; exact this
        have hn : i < specs.length := by
          rcases Nat.lt_or_ge i specs.length with h1 | h1
          · exact h1
          · exact absurd (fun j hj => listed_anc m.closed 16 o j hedge (ok.tail i o h1 (by simpa using ho') j (by omega))) hall
        exact wpOp_mono (fun a' W' m' => ih _ a' W' (by have := left_set hil hun; omega) m') (m.stepS ok hrf htr hst hvo h hn hi)
theorem region_freeS {id : Nat} {l : List Oper} {a : Act} {w : World} (R : World → World → Prop) (specs : List FSpec) (hm : P.follows .mixedOrders = true) (hok : okFreeS specs.length a.tmps.size l = true)
    (hrf : ∀ a, R a a) (htr : ∀ a b c, R a b → R b c → R a c) (hdr : ∀ a, R a a.drew) (hst : ∀ s ∈ specs, ∀ W W' v, R W W' → s.ok W v → s.ok W' v) (hvo : VoidAll l specs)
    (h : freeSteps P l R w Q 0 specs l a []) : (Code.region id l.toArray true).wp P Q a w := by
  refine wp_region_any hm ?_
  have hsz : l.toArray.size = l.length := by simp
  have hget : ∀ i : Nat, (Array.replicate l.toArray.size false).getD i false = false := by
    intro i
    rw [Array.getD_eq_getD_getElem?, Array.getElem?_replicate]
    split <;> rfl
  refine free_anyS (okFree_specS hok) hrf htr hst hvo h _ _ _ _ ?_ ⟨by simp, hdr w, rfl, rfl, ?_, ?_, ?_, ?_, ?_⟩
  · unfold left
    refine Nat.le_trans (List.length_filter_le _ _) ?_
    simp
  · intro i o hi
    rw [hget] at hi; cases hi
  · intro t _; rfl
  · intro j o d s hj
    rw [hget] at hj; cases hj
  · intro j _
    exact hget j
  · intro j o s hj
    rw [hget] at hj; cases hj
end
/-- Nothing below has changed but one row, and that has its new cells. -/
structure StR (g : Nat) (new : Array Value) (T : TypeId) (w w' : World) : Prop where
  os : w'.os = w.os
  tape : w'.tape = w.tape
  output : w'.output = w.output
  size : w.heap.size ≤ w'.heap.size
  block : ∀ k, k < w.heap.size → k ≠ g → w'.heap[k]? = w.heap[k]?
  row : w'.heap[g]? = w.heap[g]? ∨ w'.heap[g]? = some (.cells new T (0, 0)) ∨ w.heap.size ≤ g
theorem StR.of_ext {g : Nat} {new : Array Value} {T : TypeId} {w w' : World} (e : Ext w w') : StR g new T w w' :=
  ⟨e.os, e.tape, e.output, e.size, fun k h _ => e.block k h, by
    rcases Nat.lt_or_ge g w.heap.size with h | h
    · exact .inl (e.block g h)
    · exact .inr (.inr h)⟩
theorem StR.refl (g : Nat) (new : Array Value) (T : TypeId) (w : World) : StR g new T w w := .of_ext (Ext.refl w)
theorem StR.trans {g : Nat} {new : Array Value} {T : TypeId} {a b c : World} (h : StR g new T a b) (k : StR g new T b c) : StR g new T a c := by
  refine ⟨k.os.trans h.os, k.tape.trans h.tape, k.output.trans h.output, Nat.le_trans h.size k.size, fun i hi hn => (k.block i (Nat.lt_of_lt_of_le hi h.size) hn).trans (h.block i hi hn), ?_⟩
  rcases k.row with e | e | e
  · rcases h.row with f | f | f
    · exact .inl (e.trans f)
    · exact .inr (.inl (e.trans f))
    · exact .inr (.inr f)
  · exact .inr (.inl e)
  · exact .inr (.inr (Nat.le_trans h.size e))
theorem StR.blk {g k : Nat} {new : Array Value} {T : TypeId} {w w' : World} {o : Obj} (h : StR g new T w w') (hk : w.heap[k]? = some o) (hne : k ≠ g) : w'.heap[k]? = some o :=
  (h.block k (Array.getElem?_eq_some_iff.1 hk).1 hne).trans hk
theorem StR.cell {g : Nat} {new : Array Value} {T : TypeId} {w w' : World} (h : StR g new T w w') {a : Addr} {v : Value} (hc : w.cell? a = some v) (hne : a.block ≠ g) : w'.cell? a = some v :=
  (World.cell?_of_block (h.block a.block (World.block_lt_of_cell? w a hc) hne)).trans hc
/-- The row has cells of its type, old or new. -/
theorem StR.has {g : Nat} {new old : Array Value} {T : TypeId} {w w' : World} (h : StR g new T w w') (ho : w.heap[g]? = some (.cells old T (0, 0))) : ∃ cs, w'.heap[g]? = some (.cells cs T (0, 0)) ∧ (cs = old ∨ cs = new) := by
  rcases h.row with e | e | e
  · exact ⟨old, e.trans ho, .inl rfl⟩
  · exact ⟨new, e, .inr rfl⟩
  · have := (Array.getElem?_eq_some_iff.1 ho).1
    omega
theorem StR.set {g : Nat} {new old : Array Value} {T : TypeId} {w : World} (ho : w.heap[g]? = some (.cells old T (0, 0))) : StR g new T w (w.setRow g new) := by
  refine ⟨rfl, rfl, rfl, by simp, fun k _ hne => setRow_other _ _ _ _ hne, .inr (.inl (setRow_heap _ _ _ _ _ _ ho))⟩
theorem StR.ext {g : Nat} {new : Array Value} {T : TypeId} {b w w' : World} (hb : Ext b w) (h : StR g new T w w') (hg : b.heap.size ≤ g) : Ext b w' :=
  ⟨h.os.trans hb.os, h.tape.trans hb.tape, h.output.trans hb.output, Nat.le_trans hb.size h.size, fun k hk => (h.block k (Nat.lt_of_lt_of_le hk hb.size) (by omega)).trans (hb.block k hk)⟩
end Go.Proofs.YtkkfgphcmnhabaaGreatDoor
namespace Go.Proofs.YtkkfgphcmnhabaaGreatDoor
set_option maxRecDepth 100000
open Go Go.RowKit Go.Proofs
/-- Where a walk stands. -/
inductive Tok : Nat → Prop
  | mk (n : Nat) : Tok n
theorem TwG.str {w w' : World} {g k T : Nat} {l : List Nat} {new : Array Value} (h : TwG w g l) (e : StR k new T w w') (hne : g ≠ k) : TwG w' g l := ⟨h.1, e.blk h.2 hne⟩
end Go.Proofs.YtkkfgphcmnhabaaGreatDoor
namespace Go.Proofs.YtkkfgphcmnhabaaGreatDoor
set_option maxRecDepth 100000
open Go Go.RowKit Go.Proofs
/-- May an element be, by its kind and its fractions' signs? -/
def mayS (kd sp sq : Int) : Bool :=
  if kd = 1 then decide (0 ≤ sp) && (sq == 0) else if kd = 2 then sq == 0 else if kd = 3 then decide (0 ≤ sp) && decide (0 < sq) else if kd = 4 then true else if kd = 5 then (sp == 0) && (sq == 0) else false
def mayO (kd : Int) : Option Rat → Option Rat → Bool
  | some p, some q => mayS kd p.num.sign q.num.sign
  | _, _ => false
theorem mayO_none (kd : Int) {op oq : Option Rat} (h : [op, oq].all Option.isSome = false) : mayO kd op oq = false := by
  cases op <;> cases oq <;> first | rfl | (simp at h)
set_option maxHeartbeats 1600000 in
theorem benchMay_c (kd : Int) (b1 : Bool) (a1 : Option Addr) (n1 c1 : Nat) (b2 : Bool) (a2 : Option Addr) (n2 c2 : Nat) (b3 : Bool) (a3 : Option Addr) (n3 c3 : Nat) (b4 : Bool) (a4 : Option Addr) (n4 c4 : Nat) (op oq : Option Rat) (w : World) (h1 : AnyF w (.agg #[.bool b1, .slice a1 n1 c1, .bool b2, .slice a2 n2 c2]) op) (h2 : AnyF w (.agg #[.bool b3, .slice a3 n3 c3, .bool b4, .slice a4 n4 c4]) oq) :
    Calls Tryz.prog 32 #[.agg #[.int .u8 kd, .bool b1, .slice a1 n1 c1, .bool b2, .slice a2 n2 c2, .bool b3, .slice a3 n3 c3, .bool b4, .slice a4 n4 c4]] w fun e w' => e = .returned (.bool (mayO kd op oq)) ∧ Ext w w' := by
  obtain ⟨wb, hwb⟩ : ∃ wb, wb = w.alloc (.cells #[.int .u8 kd, .bool b1, .slice a1 n1 c1, .bool b2, .slice a2 n2 c2, .bool b3, .slice a3 n3 c3, .bool b4, .slice a4 n4 c4] 36) := ⟨_, rfl⟩
  have hE : Ext w wb := by rw [hwb]; exact (Ext.refl w).al _
  have z0 : wb.heap[w.heap.size]? = some (.cells #[.int .u8 kd, .bool b1, .slice a1 n1 c1, .bool b2, .slice a2 n2 c2, .bool b3, .slice a3 n3 c3, .bool b4, .slice a4 n4 c4] 36 (0, 0)) := by rw [hwb]; exact heap_alloc_new _ _
  have hsz : wb.heap.size = w.heap.size + 1 := by rw [hwb]; simp
  obtain ⟨w2, hw2⟩ : ∃ w2, w2 = wb.alloc (.cells #[.bool b1, .slice a1 n1 c1, .bool b2, .slice a2 n2 c2, .bool b3, .slice a3 n3 c3, .bool b4, .slice a4 n4 c4] 34) := ⟨_, rfl⟩
  have hE2 : Ext wb w2 := by rw [hw2]; exact (Ext.refl wb).al _
  have zS : w2.heap[w.heap.size + 1]? = some (.cells #[.bool b1, .slice a1 n1 c1, .bool b2, .slice a2 n2 c2, .bool b3, .slice a3 n3 c3, .bool b4, .slice a4 n4 c4] 34 (0, 0)) := by rw [hw2, ← hsz]; exact heap_alloc_new _ _
  have H1 := mkHid (fun W (e : Ext w W) => h1.ext e)
  have H2 := mkHid (fun W (e : Ext w W) => h2.ext e)
  have HC := checks_f (w.heap.size + 1) 2 [op, oq] w2 (by simp) (lf_two zS (h1.ext (hE.trans hE2)) (h2.ext (hE.trans hE2)))
  have z02 := mkHid (hE2.blk z0)
  replace z0 := mkHid z0
  replace hE := mkHid (hE.trans hE2)
  replace hwb := mkHid hwb
  replace hw2 := mkHid hw2
  replace hsz := mkHid hsz
  clear hE2 zS
  cases hb : [op, oq].all Option.isSome with
  | false =>
    rw [hb] at HC
    rw [mayO_none kd hb]
    replace HC := mkHid HC
    clear hb h1 h2 H1 H2
    go_enter Tryz.func32, Tryz.ntmps32
    have tok : Tok 0 := .mk _
    go_wp2_with (first
      | ((have _t : Tok 0 := tok); clear _t; clear tok; (have tok : Tok 1 := .mk _); rw [← hwb.out]; refine wpList_load_sub (by rfl) 34 (.tmp 5) rfl (w.heap.size) 1 rfl 36 #[.int .u8 kd, .bool b1, .slice a1 n1 c1, .bool b2, .slice a2 n2 c2, .bool b3, .slice a3 n3 c3, .bool b4, .slice a4 n4 c4] #[.bool b1, .slice a1 n1 c1, .bool b2, .slice a2 n2 c2] (0, 0) _ z0.out rfl Tryz.underlying34 rfl (by kernel_rfl) ?_)
      | ((have _t : Tok 1 := tok); clear _t; clear tok; (have tok : Tok 2 := .mk _); refine wpList_load_sub (by rfl) 34 (.tmp 7) rfl (w.heap.size) 5 rfl 36 #[.int .u8 kd, .bool b1, .slice a1 n1 c1, .bool b2, .slice a2 n2 c2, .bool b3, .slice a3 n3 c3, .bool b4, .slice a4 n4 c4] #[.bool b3, .slice a3 n3 c3, .bool b4, .slice a4 n4 c4] (0, 0) _ z0.out rfl Tryz.underlying34 rfl (by kernel_rfl) ?_)
      | ((have _t : Tok 2 := tok); clear _t; clear tok; (have tok : Tok 3 := .mk _); go_at_call 50; rw [← hw2.out, hsz.out]; refine HC.out.mono ?_; rintro e w3 ⟨rfl, hx⟩; replace hE := mkHid (hE.out.trans hx); replace z0 := mkHid (hx.blk z02.out); clear hx z02))
    go_ret
    exact ⟨rfl, hE.out⟩
  | true =>
    obtain ⟨p, rfl⟩ : ∃ p, op = some p := by cases op with
      | none => simp at hb
      | some p => exact ⟨p, rfl⟩
    obtain ⟨q, rfl⟩ : ∃ q, oq = some q := by cases oq with
      | none => simp at hb
      | some q => exact ⟨q, rfl⟩
    rw [hb] at HC
    replace HC := mkHid HC
    obtain ⟨f1, k1⟩ := h1.frac
    obtain ⟨f2, k2⟩ := h2.frac
    have S1 := mkHid (fun W (e : Ext w W) => sign_f _ p W (Nat.le_trans k1 (by decide)) (f1.ext e))
    have S2 := mkHid (fun W (e : Ext w W) => sign_f _ q W (Nat.le_trans k2 (by decide)) (f2.ext e))
    rw [show mayO kd (some p) (some q) = mayS kd p.num.sign q.num.sign from rfl]
    generalize p.num.sign = sp at *
    generalize q.num.sign = sq at *
    clear hb h1 h2 H1 H2 f1 f2 k1 k2
    go_enter Tryz.func32, Tryz.ntmps32
    have tok : Tok 4 := .mk _
    go_wp2_with (first
      | ((have _t : Tok 4 := tok); clear _t; clear tok; (have tok : Tok 5 := .mk _); rw [← hwb.out]; refine wpList_load_sub (by rfl) 34 (.tmp 5) rfl (w.heap.size) 1 rfl 36 #[.int .u8 kd, .bool b1, .slice a1 n1 c1, .bool b2, .slice a2 n2 c2, .bool b3, .slice a3 n3 c3, .bool b4, .slice a4 n4 c4] #[.bool b1, .slice a1 n1 c1, .bool b2, .slice a2 n2 c2] (0, 0) _ z0.out rfl Tryz.underlying34 rfl (by kernel_rfl) ?_)
      | ((have _t : Tok 5 := tok); clear _t; clear tok; (have tok : Tok 6 := .mk _); refine wpList_load_sub (by rfl) 34 (.tmp 7) rfl (w.heap.size) 5 rfl 36 #[.int .u8 kd, .bool b1, .slice a1 n1 c1, .bool b2, .slice a2 n2 c2, .bool b3, .slice a3 n3 c3, .bool b4, .slice a4 n4 c4] #[.bool b3, .slice a3 n3 c3, .bool b4, .slice a4 n4 c4] (0, 0) _ z0.out rfl Tryz.underlying34 rfl (by kernel_rfl) ?_)
      | ((have _t : Tok 6 := tok); clear _t; clear tok; (have tok : Tok 7 := .mk _); go_at_call 50; rw [← hw2.out, hsz.out]; refine HC.out.mono ?_; rintro e w3 ⟨rfl, hx⟩; replace hE := mkHid (hE.out.trans hx); replace z0 := mkHid (hx.blk z02.out); clear hx z02))
    apply region_ext [.val (.pointer (some ⟨w.heap.size, 1, none⟩)), .val (.agg #[.bool b1, .slice a1 n1 c1, .bool b2, .slice a2 n2 c2]), .val (.int .i64 sp), .val (.pointer (some ⟨w.heap.size, 5, none⟩)), .val (.agg #[.bool b3, .slice a3 n3 c3, .bool b4, .slice a4 n4 c4]), .val (.int .i64 sq)] (by kernel_rfl) (stable_vals _ (stable_vals _ (stable_vals _ (stable_vals _ (stable_vals _ (stable_vals _ trivial))))))
    refine ⟨fun W hW _ => by go_simp; first | exact ⟨Ext.refl _, rfl⟩ | exact Ext.refl _, ?_⟩
    refine ⟨?l1, ?_⟩
    case l1 =>
      intro W hW hF
      have hr := hW.blk z0.out
      with_reducible refine fr_load_sub ?zhw 34 (.tmp 12) ?zho w.heap.size 1 ?zhx 36 _ #[.bool b1, .slice a1 n1 c1, .bool b2, .slice a2 n2 c2] (0, 0) _ hr ?zhs Tryz.underlying34 ?zhd ?zhi ?zh
      case zhw => kernel_rfl
      case zho => rfl
      case zhx => kernel_rfl
      case zhs => rfl
      case zhd => rfl
      case zhi => kernel_rfl
      case zh => exact ⟨Ext.refl _, rfl⟩
    refine ⟨fun W hW _ => ?s1, ?_⟩
    case s1 =>
      go_simp
      refine (S1.out W (hE.out.trans hW)).mono ?_
      rintro e w' ⟨rfl, hx⟩
      exact ⟨rfl, hx⟩
    refine ⟨fun W hW _ => by go_simp; first | exact ⟨Ext.refl _, rfl⟩ | exact Ext.refl _, ?_⟩
    refine ⟨?l2, ?_⟩
    case l2 =>
      intro W hW hF
      have hr := hW.blk z0.out
      with_reducible refine fr_load_sub ?zhw 34 (.tmp 15) ?zho w.heap.size 5 ?zhx 36 _ #[.bool b3, .slice a3 n3 c3, .bool b4, .slice a4 n4 c4] (0, 0) _ hr ?zhs Tryz.underlying34 ?zhd ?zhi ?zh
      case zhw => kernel_rfl
      case zho => rfl
      case zhx => kernel_rfl
      case zhs => rfl
      case zhd => rfl
      case zhi => kernel_rfl
      case zh => exact ⟨Ext.refl _, rfl⟩
    refine ⟨fun W hW _ => ?s2, fun W hW _ => ?fin⟩
    case s2 =>
      go_simp
      refine (S2.out W (hE.out.trans hW)).mono ?_
      rintro e w' ⟨rfl, hx⟩
      exact ⟨rfl, hx⟩
    case fin =>
      replace z0 := hW.blk z0.out
      replace hE := mkHid (hE.out.trans hW)
      have y0 := row16_cells z0 0
      replace y0 : W.cell? ⟨w.heap.size, 0, none⟩ = some (.int .u8 kd) := y0
      clear hW z0 S1 S2 HC
      go_simp
      by_cases k1 : kd = 1
      · subst k1
        by_cases hs : 0 ≤ sp
        · have e1 : decide (0 ≤ sp) = true := by simp [hs]
          go_wp2_with fail
          go_ret
          exact ⟨by simp [mayS, hs], hE.out⟩
        · have e1 : decide (0 ≤ sp) = false := by simp [hs]
          go_wp2_with fail
          go_ret
          exact ⟨by simp [mayS]; intro h; omega, hE.out⟩
      by_cases k2 : kd = 2
      · subst k2
        go_wp2_with fail
        go_ret
        exact ⟨by simp [mayS], hE.out⟩
      by_cases k3 : kd = 3
      · subst k3
        by_cases hs : 0 ≤ sp
        · have e1 : decide (0 ≤ sp) = true := by simp [hs]
          go_wp2_with fail
          go_ret
          exact ⟨by simp [mayS, hs], hE.out⟩
        · have e1 : decide (0 ≤ sp) = false := by simp [hs]
          go_wp2_with fail
          go_ret
          exact ⟨by simp [mayS]; intro h; omega, hE.out⟩
      by_cases k4 : kd = 4
      · subst k4
        go_wp2_with fail
        go_ret
        exact ⟨by simp [mayS], hE.out⟩
      by_cases k5 : kd = 5
      · subst k5
        by_cases hs : sp = 0
        · subst hs
          go_wp2_with fail
          go_ret
          exact ⟨by simp [mayS], hE.out⟩
        · have e1 : (sp == 0) = false := by simpa using hs
          go_wp2_with fail
          go_ret
          exact ⟨by simp [mayS, hs], hE.out⟩
      have d1 : (kd == 1) = false := by simpa using k1
      have d2 : (kd == 2) = false := by simpa using k2
      have d3 : (kd == 3) = false := by simpa using k3
      have d4 : (kd == 4) = false := by simpa using k4
      have d5 : (kd == 5) = false := by simpa using k5
      go_wp2_with fail
      go_ret
      exact ⟨by simp [mayS, k1, k2, k3, k4, k5], hE.out⟩
set_option maxHeartbeats 1600000 in
theorem benchCheck_1 (kd : Int) (b1 : Bool) (a1 : Option Addr) (n1 c1 : Nat) (b2 : Bool) (a2 : Option Addr) (n2 c2 : Nat) (b3 : Bool) (a3 : Option Addr) (n3 c3 : Nat) (b4 : Bool) (a4 : Option Addr) (n4 c4 : Nat) (op oq : Option Rat) (g : Nat) (w : World) (h1 : AnyF w (.agg #[.bool b1, .slice a1 n1 c1, .bool b2, .slice a2 n2 c2]) op) (h2 : AnyF w (.agg #[.bool b3, .slice a3 n3 c3, .bool b4, .slice a4 n4 c4]) oq) (hg : w.heap[g]? = some (.cells #[.int .u8 kd, .bool b1, .slice a1 n1 c1, .bool b2, .slice a2 n2 c2, .bool b3, .slice a3 n3 c3, .bool b4, .slice a4 n4 c4] 36 (0, 0))) :
    Calls Tryz.prog 11 #[.slice (some ⟨g, 0, none⟩) 1 1] w fun e w' => e = .returned (.int .i64 (if mayO kd op oq then 0 else 1)) ∧ Ext w w' := by
  have M := mkHid (fun W (e : Ext w W) => benchMay_c kd b1 a1 n1 c1 b2 a2 n2 c2 b3 a3 n3 c3 b4 a4 n4 c4 op oq W (h1.ext e) (h2.ext e))
  have z0 := mkHid hg
  clear h1 h2 hg
  obtain ⟨w2, hw2⟩ : ∃ w2, w2 = w.alloc (.cells #[.int .u8 kd, .bool b1, .slice a1 n1 c1, .bool b2, .slice a2 n2 c2, .bool b3, .slice a3 n3 c3, .bool b4, .slice a4 n4 c4] 36) := ⟨_, rfl⟩
  have hE : Ext w w2 := by rw [hw2]; exact (Ext.refl w).al _
  have zV : w2.heap[w.heap.size]? = some (.cells #[.int .u8 kd, .bool b1, .slice a1 n1 c1, .bool b2, .slice a2 n2 c2, .bool b3, .slice a3 n3 c3, .bool b4, .slice a4 n4 c4] 36 (0, 0)) := by rw [hw2]; exact heap_alloc_new _ _
  replace zV := mkHid zV
  replace hE := mkHid hE
  replace hw2 := mkHid hw2
  cases hm : mayO kd op oq <;> rw [hm] at M
  all_goals
    clear hm
    go_enter Tryz.func11, Tryz.ntmps11
    go_wp2_with fail
    refine wp_loop_rounds 2 ?_
    rw [rounds_succ]
    have tok : Tok 8 := .mk _
    go_wp2_with (first
      | ((have _t : Tok 8 := tok); clear _t; clear tok; (have tok : Tok 9 := .mk _); refine wpList_load_row (by rfl) 36 (.tmp 12) rfl (g) rfl 36 #[.int .u8 kd, .bool b1, .slice a1 n1 c1, .bool b2, .slice a2 n2 c2, .bool b3, .slice a3 n3 c3, .bool b4, .slice a4 n4 c4] (0, 0) _ z0.out Tryz.underlying36 rfl (by kernel_rfl) ?_)
      | ((have _t : Tok 9 := tok); clear _t; clear tok; (have tok : Tok 10 := .mk _); rw [← hw2.out]; refine wpList_load_row (by rfl) 36 (.tmp 4) rfl (w.heap.size) rfl 36 #[.int .u8 kd, .bool b1, .slice a1 n1 c1, .bool b2, .slice a2 n2 c2, .bool b3, .slice a3 n3 c3, .bool b4, .slice a4 n4 c4] (0, 0) _ zV.out Tryz.underlying36 rfl (by kernel_rfl) ?_)
      | ((have _t : Tok 10 := tok); clear _t; clear tok; (have tok : Tok 11 := .mk _); go_at_call 32; refine (M.out _ hE.out).mono ?_; rintro e w3 ⟨rfl, hx⟩; replace hE := mkHid (hE.out.trans hx); clear hx))
  · go_ret
    exact ⟨rfl, hE.out⟩
  · rw [rounds_succ]
    go_wp2_with fail
    go_ret
    exact ⟨rfl, hE.out⟩
def mayP (kd co : Int) (op oq : Option Rat) : Bool := decide (0 ≤ co) && (decide (co ≤ 1073741824) && mayO kd op oq)
set_option maxHeartbeats 1600000 in
theorem may_c (nm : ByteArray) (kd co : Int) (b1 : Bool) (a1 : Option Addr) (n1 c1 : Nat) (b2 : Bool) (a2 : Option Addr) (n2 c2 : Nat) (b3 : Bool) (a3 : Option Addr) (n3 c3 : Nat) (b4 : Bool) (a4 : Option Addr) (n4 c4 : Nat) (op oq : Option Rat) (w : World) (h1 : AnyF w (.agg #[.bool b1, .slice a1 n1 c1, .bool b2, .slice a2 n2 c2]) op) (h2 : AnyF w (.agg #[.bool b3, .slice a3 n3 c3, .bool b4, .slice a4 n4 c4]) oq) :
    Calls Tryz.prog 34 #[.agg #[.string nm, .int .u8 kd, .bool b1, .slice a1 n1 c1, .bool b2, .slice a2 n2 c2, .bool b3, .slice a3 n3 c3, .bool b4, .slice a4 n4 c4, .int .i64 co]] w fun e w' => e = .returned (.bool (mayP kd co op oq)) ∧ Ext w w' := by
  obtain ⟨wb, hwb⟩ : ∃ wb, wb = w.alloc (.cells #[.string nm, .int .u8 kd, .bool b1, .slice a1 n1 c1, .bool b2, .slice a2 n2 c2, .bool b3, .slice a3 n3 c3, .bool b4, .slice a4 n4 c4, .int .i64 co] 38) := ⟨_, rfl⟩
  have hE : Ext w wb := by rw [hwb]; exact (Ext.refl w).al _
  have z0 : wb.heap[w.heap.size]? = some (.cells #[.string nm, .int .u8 kd, .bool b1, .slice a1 n1 c1, .bool b2, .slice a2 n2 c2, .bool b3, .slice a3 n3 c3, .bool b4, .slice a4 n4 c4, .int .i64 co] 38 (0, 0)) := by rw [hwb]; exact heap_alloc_new _ _
  have hsz : wb.heap.size = w.heap.size + 1 := by rw [hwb]; simp
  obtain ⟨w2, hw2⟩ : ∃ w2, w2 = wb.alloc (.cells #[.int .u8 kd, .bool b1, .slice a1 n1 c1, .bool b2, .slice a2 n2 c2, .bool b3, .slice a3 n3 c3, .bool b4, .slice a4 n4 c4] 36) := ⟨_, rfl⟩
  have hE2 : Ext wb w2 := by rw [hw2]; exact (Ext.refl wb).al _
  have zS : w2.heap[w.heap.size + 1]? = some (.cells #[.int .u8 kd, .bool b1, .slice a1 n1 c1, .bool b2, .slice a2 n2 c2, .bool b3, .slice a3 n3 c3, .bool b4, .slice a4 n4 c4] 36 (0, 0)) := by rw [hw2, ← hsz]; exact heap_alloc_new _ _
  have M := benchCheck_1 kd b1 a1 n1 c1 b2 a2 n2 c2 b3 a3 n3 c3 b4 a4 n4 c4 op oq (w.heap.size + 1) w2 (h1.ext (hE.trans hE2)) (h2.ext (hE.trans hE2)) zS
  have y10 := row16_cells z0 10
  replace y10 : wb.cell? ⟨w.heap.size, 10, none⟩ = some (.int .i64 co) := y10
  have hE' := mkHid (hE.trans hE2)
  replace z0 := mkHid z0
  replace M := mkHid M
  replace hwb := mkHid hwb
  replace hw2 := mkHid hw2
  replace hsz := mkHid hsz
  replace hE := mkHid hE
  clear h1 h2 hE2 zS
  by_cases cc1 : 0 ≤ co
  · by_cases cc2 : co ≤ 1073741824
    · have ev : mayP kd co op oq = mayO kd op oq := by simp [mayP, cc1, cc2]
      rw [ev]
      clear ev
      cases hm : mayO kd op oq <;> rw [hm] at M
      all_goals
        clear hm
        go_enter Tryz.func34, Tryz.ntmps34
        have tok : Tok 12 := .mk _
        go_wp2_with ((have _t : Tok 12 := tok); clear _t; clear tok; (have tok : Tok 13 := .mk _); go_at_call 11; rw [← hwb.out, ← hw2.out]; refine M.out.mono ?_; rintro e w3 ⟨rfl, hx⟩; replace hE' := mkHid (hE'.out.trans hx); clear hx)
        go_ret
        exact ⟨rfl, hE'.out⟩
    · have ev : mayP kd co op oq = false := by simp [mayP, cc2]
      rw [ev]
      clear ev M
      go_enter Tryz.func34, Tryz.ntmps34
      clear y10
      go_wp2_with fail
      go_ret
      exact ⟨rfl, (Ext.refl _).al _⟩
  · have ev : mayP kd co op oq = false := by simp [mayP, cc1]
    rw [ev]
    clear ev M
    go_enter Tryz.func34, Tryz.ntmps34
    clear y10
    go_wp2_with fail
    go_ret
    exact ⟨rfl, (Ext.refl _).al _⟩
end Go.Proofs.YtkkfgphcmnhabaaGreatDoor
namespace Go.Proofs.YtkkfgphcmnhabaaGreatDoor
set_option maxRecDepth 100000
open Go Go.RowKit Go.Proofs
/-- Limbs that read so, noughts at the end allowed, of a number. -/
def RawR (w : World) (v : Value) (n : Nat) : Prop := ∃ r, MagR w v r ∧ OkL r ∧ r.length ≤ 4294967296 ∧ val r = n
theorem RawR.ext {w w' : World} {v : Value} {n : Nat} (h : RawR w v n) (e : Ext w w') : RawR w' v n := by
  obtain ⟨r, h1, h2⟩ := h
  exact ⟨r, h1.ext e, h2⟩
theorem RawO.rr {w : World} {base : Nat} {v : Value} {n : Nat} (h : RawO w base v n) : RawR w v n := by
  obtain ⟨r, h1, h2⟩ := h
  exact ⟨r, h1.r, h2⟩
theorem RawR.lims {w : World} {v : Value} {n : Nat} (h : MagR w v (lim n)) (hl : (lim n).length ≤ 4294967296) : RawR w v n := ⟨_, h, lim_ok _, hl, val_lim _⟩
end Go.Proofs.YtkkfgphcmnhabaaGreatDoor
namespace Go.Proofs.YtkkfgphcmnhabaaGreatDoor
set_option maxRecDepth 100000
open Go Go.RowKit Go.Proofs
theorem RestR.raw {w : World} {v : Value} {n : Nat} (h : RestR w v n) (hl : (lim n).length ≤ 4294967296) : RawR w v n := by
  obtain ⟨a, c, h1, h2, h3⟩ := h.r
  exact RawR.lims ⟨a, c, h1, h2, h3⟩ hl
end Go.Proofs.YtkkfgphcmnhabaaGreatDoor
namespace Go.Proofs.YtkkfgphcmnhabaaGreatDoor
set_option maxRecDepth 100000
open Go Go.RowKit Go.Proofs
/-- A fraction's rows lie from a block on. -/
def NewF (lo : Nat) (v : Value) : Prop := ∀ b1 s1 b2 s2, v = .agg #[.bool b1, s1, .bool b2, s2] → NewV lo s1 ∧ NewV lo s2
end Go.Proofs.YtkkfgphcmnhabaaGreatDoor
namespace Go.Proofs.YtkkfgphcmnhabaaGreatDoor
set_option maxRecDepth 100000
open Go Go.RowKit Go.Proofs Go.Shelf Go.Lib
/-- The letters, digits and the stroke. -/
def cutset : List UInt8 := [97, 98, 99, 100, 101, 102, 103, 104, 105, 106, 107, 108, 109, 110, 111, 112, 113, 114, 115, 116, 117, 118, 119, 120, 121, 122, 48, 49, 50, 51, 52, 53, 54, 55, 56, 57, 45]
def nameC (c : UInt8) : Bool := (decide (97 ≤ c.toNat) && decide (c.toNat ≤ 122)) || (decide (48 ≤ c.toNat) && decide (c.toNat ≤ 57)) || c.toNat == 45
theorem cutset_nameC (c : UInt8) : cutset.contains c = nameC c := by
  have h : ∀ n : Fin 256, cutset.contains (UInt8.ofNat n.val) = nameC (UInt8.ofNat n.val) := by decide +kernel
  have := h ⟨c.toNat, c.toNat_lt⟩
  simpa using this
/-- Is it a name? -/
def nameB (l : List UInt8) : Bool := decide (0 < l.length) && (decide (l.length ≤ 32) && (decide (97 ≤ (l.headD 0).toNat) && (decide ((l.headD 0).toNat ≤ 122) && l.all nameC)))
theorem dw_all {p : UInt8 → Bool} : ∀ l : List UInt8, (∀ x ∈ l.dropWhile p, p x = true) → l.dropWhile p = []
  | [], _ => rfl
  | a :: l, h => by
    by_cases ha : p a = true
    · rw [List.dropWhile_cons_of_pos ha] at h ⊢
      exact dw_all l h
    · rw [List.dropWhile_cons_of_neg ha] at h
      exact absurd (h a (by simp)) ha
theorem dw_nil {p : UInt8 → Bool} : ∀ l : List UInt8, l.dropWhile p = [] ↔ ∀ x ∈ l, p x = true
  | [] => by simp
  | a :: l => by
    by_cases ha : p a = true
    · rw [List.dropWhile_cons_of_pos ha, dw_nil l]
      simp [ha]
    · rw [List.dropWhile_cons_of_neg ha]
      simp [ha]
theorem trimS_nil (l : List UInt8) : (Lib.trimS l cutset = []) ↔ l.all nameC = true := by
  have e : (fun c => cutset.contains c) = nameC := funext cutset_nameC
  unfold Lib.trimS Lib.trimRightS Lib.trimLeftS
  rw [e, dw_nil]
  constructor
  · intro h
    have h2 := dw_all (p := nameC) l.reverse fun x hx => h x (List.mem_reverse.2 hx)
    rw [dw_nil] at h2
    exact List.all_eq_true.2 fun x hx => h2 x (List.mem_reverse.2 hx)
  · intro h x hx
    have h2 : l.reverse.dropWhile nameC = [] := (dw_nil _).2 fun y hy => List.all_eq_true.1 h y (List.mem_reverse.1 hy)
    rw [h2] at hx
    cases hx
theorem strim_c (s : ByteArray) (w : World) (hs : s.size ≤ 9223372036854775807) :
    Calls Tryz.prog 67 #[.string s, .string ⟨#[97, 98, 99, 100, 101, 102, 103, 104, 105, 106, 107, 108, 109, 110, 111, 112, 113, 114, 115, 116, 117, 118, 119, 120, 121, 122, 48, 49, 50, 51, 52, 53, 54, 55, 56, 57, 45]⟩] w fun e w' => e = .returned (.string ⟨(Lib.trimS s.data.toList cutset).toArray⟩) ∧ Below w.heap.size w w' := by
  have hcon := Any.strings_Trim_laid Tryz.lays160 (by kernel_rfl) s ⟨#[97, 98, 99, 100, 101, 102, 103, 104, 105, 106, 107, 108, 109, 110, 111, 112, 113, 114, 115, 116, 117, 118, 119, 120, 121, 122, 48, 49, 50, 51, 52, 53, 54, 55, 56, 57, 45]⟩ w hs (by decide) (ascii_of_all (by decide))
  exact hcon
set_option maxHeartbeats 400000 in
theorem named_c (s : ByteArray) (w : World) (hs : s.size ≤ 9223372036854775807) :
    Calls Tryz.prog 33 #[.string s] w fun e w' => e = .returned (.bool (nameB s.data.toList)) ∧ Ext w w' := by
  have T := strim_c s w hs
  have e1 := trimS_nil s.data.toList
  have hsz : s.data.toList.length = s.size := Array.length_toList
  generalize Lib.trimS s.data.toList cutset = r at T e1
  unfold nameB
  rw [hsz]
  by_cases c1 : 0 < s.size
  · have hd : s.data.toList.headD 0 = s[0] := by
      obtain ⟨⟨l⟩⟩ := s
      cases l with
      | nil => simp [ByteArray.size] at c1
      | cons a l => rfl
    rw [hd]
    clear hd hsz
    by_cases c2 : s.size ≤ 32
    · by_cases c3 : 97 ≤ s[0].toNat
      · by_cases c4 : s[0].toNat ≤ 122
        · cases hall : s.data.toList.all nameC
          · have hr : r ≠ [] := fun h => by rw [e1.1 h] at hall; cases hall
            clear e1 hall
            replace T := mkHid T
            go_enter Tryz.func33, Tryz.ntmps33
            go_wp2_with (go_at_call 67; refine T.out.mono ?_; rintro e w2 ⟨rfl, hx⟩; replace hx := mkHid hx)
            go_ret
            exact ⟨by simp [c1, c2, c3, c4, hr], hx.out⟩
          · have hr : r = [] := e1.2 hall
            subst hr
            clear e1 hall
            replace T := mkHid T
            go_enter Tryz.func33, Tryz.ntmps33
            go_wp2_with (go_at_call 67; refine T.out.mono ?_; rintro e w2 ⟨rfl, hx⟩; replace hx := mkHid hx)
            go_ret
            exact ⟨by simp [c1, c2, c3, c4], hx.out⟩
        · clear T e1
          go_enter Tryz.func33, Tryz.ntmps33
          go_wp2_with fail
          go_ret
          exact ⟨by simp [c1, c2, c3, c4], Ext.refl _⟩
      · clear T e1
        go_enter Tryz.func33, Tryz.ntmps33
        go_wp2_with fail
        go_ret
        exact ⟨by simp [c1, c2, c3], Ext.refl _⟩
    · clear T e1
      go_enter Tryz.func33, Tryz.ntmps33
      go_wp2_with fail
      go_ret
      exact ⟨by simp [c1, c2], Ext.refl _⟩
  · clear T e1 hsz
    go_enter Tryz.func33, Tryz.ntmps33
    go_wp2_with fail
    go_ret
    exact ⟨by simp [c1], Ext.refl _⟩
end Go.Proofs.YtkkfgphcmnhabaaGreatDoor
namespace Go.Proofs.YtkkfgphcmnhabaaGreatDoor
set_option maxRecDepth 100000
open Go Go.RowKit Go.Proofs
theorem Row.near {w w' : World} {a : Option Addr} {xs : List Value} (h : Row w a xs) (e : ∀ g, a.map (·.block) = some g → w'.heap[g]? = w.heap[g]?) : Row w' a xs := by
  obtain ⟨b, off, h1, h2⟩ := h
  by_cases hx : xs = []
  · subst hx
    exact ⟨b, off, h1, fun j hj => by simp at hj⟩
  · have ha := h1 hx
    refine ⟨b, off, h1, fun j hj => ?_⟩
    have hb := e b (by rw [ha]; rfl)
    rw [← h2 j hj]
    exact World.cell?_of_block hb
theorem blks_mk {b : Bool} {a : Option Addr} {n c g : Nat} (h : a.map (·.block) = some g) : g ∈ Aloof.blks (.agg #[.bool b, .slice a n c]) := by
  cases a with
  | none => cases h
  | some a => simpa [Aloof.blks, Aloof.blk1, Value.cells, eq_comm] using h
theorem IntR.near {w w' : World} {v : Value} {x : Int} (h : IntR w v x) (e : ∀ g ∈ Aloof.blks v, w'.heap[g]? = w.heap[g]?) : IntR w' v x := by
  obtain ⟨s, rfl, a, c, rfl, h1, h2⟩ := h
  exact ⟨_, rfl, _, _, rfl, h1, h2.near fun g hg => e g (blks_mk hg)⟩
theorem FracR.near {w w' : World} {v : Value} {q : Rat} (h : FracR w v q) (e : ∀ g ∈ Aloof.blks v, w'.heap[g]? = w.heap[g]?) : FracR w' v q := by
  obtain ⟨b1, a1, n1, c1, b2, a2, n2, c2, rfl, h1, h2⟩ := h
  rw [blks_agg2] at e
  exact ⟨_, _, _, _, _, _, _, _, rfl, h1.near fun g hg => e g (List.mem_append_left _ hg), h2.near fun g hg => e g (List.mem_append_right _ hg)⟩
theorem PartR.near {w w' : World} {v : Value} {d : PD} (h : PartR w v d) (e : ∀ g ∈ Aloof.blks v, w'.heap[g]? = w.heap[g]?) : PartR w' v d := by
  obtain ⟨b1, a1, n1, c1, b2, a2, n2, c2, b3, a3, n3, c3, b4, a4, n4, c4, rfl, h1, h2⟩ := h
  rw [blks_part] at e
  exact ⟨_, _, _, _, _, _, _, _, _, _, _, _, _, _, _, _, rfl, h1.near fun g hg => e g (List.mem_append_left _ hg), h2.near fun g hg => e g (List.mem_append_right _ hg)⟩
theorem MagO.near {w w' : World} {base : Nat} {a : Option Addr} {n c : Nat} {l : List Nat} (h : MagO w base (.slice a n c) l) (e : ∀ g, a.map (·.block) = some g → w'.heap[g]? = w.heap[g]?) : MagO w' base (.slice a n c) l := by
  obtain ⟨h1, h | ⟨g, cap, cur, e1, h2, h3, r⟩⟩ := h
  · exact ⟨h1, .inl h⟩
  · cases e1
    exact ⟨h1, .inr ⟨g, _, cur, rfl, h2, (e g rfl).trans h3, r⟩⟩
theorem IntO.near {w w' : World} {base : Nat} {v : Value} {x : Int} (h : IntO w base v x) (e : ∀ g ∈ Aloof.blks v, w'.heap[g]? = w.heap[g]?) : IntO w' base v x := by
  obtain ⟨b, a, n, c, rfl⟩ := h.r.shape
  obtain ⟨s, e', hm⟩ := h
  cases e'
  exact ⟨_, rfl, hm.near fun g hg => e g (blks_mk hg)⟩
theorem FracO.near {w w' : World} {base : Nat} {v : Value} {q : Rat} (h : FracO w base v q) (e : ∀ g ∈ Aloof.blks v, w'.heap[g]? = w.heap[g]?) : FracO w' base v q := by
  obtain ⟨b1, a1, n1, c1, b2, a2, n2, c2, rfl, h1, h2⟩ := h
  rw [blks_agg2] at e
  exact ⟨_, _, _, _, _, _, _, _, rfl, h1.near fun g hg => e g (List.mem_append_left _ hg), h2.near fun g hg => e g (List.mem_append_right _ hg)⟩
theorem PartK.near {lo : Nat} {w w' : World} {v : Value} {d : PD} (h : PartK lo w v d) (e : ∀ g ∈ Aloof.blks v, w'.heap[g]? = w.heap[g]?) : PartK lo w' v d := by
  obtain ⟨b1, a1, n1, c1, b2, a2, n2, c2, b3, a3, n3, c3, b4, a4, n4, c4, rfl, h1, h2, h3⟩ := h
  rw [blks_part] at e
  exact ⟨_, _, _, _, _, _, _, _, _, _, _, _, _, _, _, _, rfl, h1.near fun g hg => e g (List.mem_append_left _ hg), h2.near fun g hg => e g (List.mem_append_right _ hg), h3⟩
/-- What a part in a catalogue is. -/
def okPD (d : PD) : Prop := nf d.p ≤ 2048 ∧ nf d.q ≤ 2048 ∧ nameB d.nm.data.toList = true ∧ mayP d.kd d.co (some d.p) (some d.q) = true
/-- A catalogue: its struct lies in block g, its map in block M; its parts. -/
structure Cat (w : World) (g M : Nat) (es : List (PD × Value)) : Prop where
  str : w.heap[g]? = some (.cells #[.map (some M)] 72 (0, 0))
  map : MapP w M es
  part : ∀ x ∈ es, PartR w x.2 x.1
  lie : ∀ x ∈ es, ∀ k ∈ Aloof.blks x.2, k < w.heap.size
  out : ∀ x ∈ es, ∀ k ∈ Aloof.blks x.2, k ≠ M
  ok : ∀ x ∈ es, okPD x.1
  few : es.length ≤ 64
/-- Its blocks. -/
def catB (g M : Nat) (es : List (PD × Value)) (k : Nat) : Prop := k = g ∨ k = M ∨ ∃ x ∈ es, k ∈ Aloof.blks x.2
theorem Cat.near {w w' : World} {g M : Nat} {es : List (PD × Value)} (h : Cat w g M es) (hs : w.heap.size ≤ w'.heap.size) (e : ∀ k, catB g M es k → w'.heap[k]? = w.heap[k]?) : Cat w' g M es :=
  ⟨(e g (.inl rfl)).trans h.str, h.map.blk (e M (.inr (.inl rfl))), fun x hx => (h.part x hx).near fun k hk => e k (.inr (.inr ⟨x, hx, hk⟩)), fun x hx k hk => Nat.lt_of_lt_of_le (h.lie x hx k hk) hs, h.out, h.ok, h.few⟩
theorem Cat.lt {w : World} {g M : Nat} {es : List (PD × Value)} (h : Cat w g M es) : ∀ k, catB g M es k → k < w.heap.size := by
  rintro k (rfl | rfl | ⟨x, hx, hk⟩)
  · exact (Array.getElem?_eq_some_iff.1 h.str).1
  · exact h.map.lt
  · exact h.lie x hx k hk
theorem Cat.ext {w w' : World} {g M : Nat} {es : List (PD × Value)} (h : Cat w g M es) (e : Ext w w') : Cat w' g M es :=
  h.near e.size fun k hk => e.block k (h.lt k hk)
theorem Cat.ne {w : World} {g M : Nat} {es : List (PD × Value)} (h : Cat w g M es) : g ≠ M := by
  intro e
  obtain ⟨a, clock, hb, _⟩ := h.map
  have := h.str
  rw [e, hb] at this
  cases this
theorem mem_insP {x y : PD × Value} : ∀ {es : List (PD × Value)}, y ∈ insP x es ↔ y = x ∨ y ∈ es
  | [] => by simp [insP]
  | z :: r => by
    unfold insP
    split
    · simp
    · rw [List.mem_cons, mem_insP (es := r), List.mem_cons]
      constructor
      · rintro (h | h | h)
        · exact .inr (.inl h)
        · exact .inl h
        · exact .inr (.inr h)
      · rintro (h | h | h)
        · exact .inr (.inl h)
        · exact .inl h
        · exact .inr (.inr h)
/-- One part more. -/
theorem Cat.put {w w' : World} {g M : Nat} {es : List (PD × Value)} {d : PD} {v : Value} {lo : Nat} (h : Cat w g M es) (hm : MapP w' M (insP (d, v) es)) (ht : w.mapTurned w' M) (hv : PartK lo w v d) (hlo : M < lo) (hd : okPD d) (hl : es.length < 64) : Cat w' g M (insP (d, v) es) := by
  have hg := ht.grown
  have hb : ∀ k, k < w.heap.size → k ≠ M → w'.heap[k]? = w.heap[k]? := fun k hk hne => hg.block k hk (fun e => hne (Option.some.inj e))
  have hs : w.heap.size ≤ w'.heap.size := hg.size
  refine ⟨(hb g (Array.getElem?_eq_some_iff.1 h.str).1 h.ne).trans h.str, hm, fun x hx => ?_, fun x hx k hk => ?_, fun x hx k hk => ?_, fun x hx => ?_, by rw [insP_length]; omega⟩
  · rcases mem_insP.1 hx with rfl | hx
    · exact hv.r.near fun k hk => hb k (hv.span k hk).2 (by have := (hv.span k hk).1; omega)
    · exact (h.part x hx).near fun k hk => hb k (h.lie x hx k hk) (h.out x hx k hk)
  · rcases mem_insP.1 hx with rfl | hx
    · exact Nat.lt_of_lt_of_le (hv.span k hk).2 hs
    · exact Nat.lt_of_lt_of_le (h.lie x hx k hk) hs
  · rcases mem_insP.1 hx with rfl | hx
    · have := (hv.span k hk).1
      omega
    · exact h.out x hx k hk
  · rcases mem_insP.1 hx with rfl | hx
    · exact hd
    · exact h.ok x hx
/-- One part less. -/
theorem Cat.drop {w w' : World} {g M : Nat} {es : List (PD × Value)} (f : PD × Value → Bool) (h : Cat w g M es) (hm : MapP w' M (es.filter f)) (ht : w.mapTurned w' M) : Cat w' g M (es.filter f) := by
  have hg := ht.grown
  have hb : ∀ k, k < w.heap.size → k ≠ M → w'.heap[k]? = w.heap[k]? := fun k hk hne => hg.block k hk (fun e => hne (Option.some.inj e))
  have hs : w.heap.size ≤ w'.heap.size := hg.size
  have sub : ∀ x, x ∈ es.filter f → x ∈ es := fun x hx => (List.mem_filter.1 hx).1
  exact ⟨(hb g (Array.getElem?_eq_some_iff.1 h.str).1 h.ne).trans h.str, hm, fun x hx => (h.part x (sub x hx)).near fun k hk => hb k (h.lie x (sub x hx) k hk) (h.out x (sub x hx) k hk), fun x hx k hk => Nat.lt_of_lt_of_le (h.lie x (sub x hx) k hk) hs, fun x hx => h.out x (sub x hx), fun x hx => h.ok x (sub x hx), Nat.le_trans (List.length_filter_le _ _) h.few⟩
theorem Cat.turned {w w' : World} {M : Nat} (ht : w.mapTurned w' M) : Chg w w' (· = M) := (Chg.grown ht.grown).mono fun k _ h => by cases h; rfl
/-- The shape of a fraction's value. -/
structure FV where
  b1 : Bool
  a1 : Option Addr
  n1 : Nat
  c1 : Nat
  b2 : Bool
  a2 : Option Addr
  n2 : Nat
  c2 : Nat
theorem AnyF.fv {w : World} {v : Value} {o : Option Rat} (h : AnyF w v o) : ∃ p : FV, v = .agg #[.bool p.b1, .slice p.a1 p.n1 p.c1, .bool p.b2, .slice p.a2 p.n2 p.c2] := by
  obtain ⟨b1, a1, n1, c1, b2, a2, n2, c2, e⟩ := h.shape
  exact ⟨⟨b1, a1, n1, c1, b2, a2, n2, c2⟩, e⟩
theorem FracR.fv {w : World} {v : Value} {x : Rat} (h : FracR w v x) : ∃ p : FV, v = .agg #[.bool p.b1, .slice p.a1 p.n1 p.c1, .bool p.b2, .slice p.a2 p.n2 p.c2] := by
  obtain ⟨b1, a1, n1, c1, b2, a2, n2, c2, e⟩ := h.shape
  exact ⟨⟨b1, a1, n1, c1, b2, a2, n2, c2⟩, e⟩
theorem PartR.fv {w : World} {v : Value} {d : PD} (h : PartR w v d) : ∃ p q : FV, v = .agg #[.string d.nm, .int .u8 d.kd, .bool p.b1, .slice p.a1 p.n1 p.c1, .bool p.b2, .slice p.a2 p.n2 p.c2, .bool q.b1, .slice q.a1 q.n1 q.c1, .bool q.b2, .slice q.a2 q.n2 q.c2, .int .i64 d.co] ∧ FracR w (.agg #[.bool p.b1, .slice p.a1 p.n1 p.c1, .bool p.b2, .slice p.a2 p.n2 p.c2]) d.p ∧ FracR w (.agg #[.bool q.b1, .slice q.a1 q.n1 q.c1, .bool q.b2, .slice q.a2 q.n2 q.c2]) d.q := by
  obtain ⟨b1, a1, n1, c1, b2, a2, n2, c2, b3, a3, n3, c3, b4, a4, n4, c4, e, h1, h2⟩ := h
  exact ⟨⟨b1, a1, n1, c1, b2, a2, n2, c2⟩, ⟨b3, a3, n3, c3, b4, a4, n4, c4⟩, e, h1, h2⟩
theorem PartR.mk {w : World} {d : PD} {p q : FV} (h1 : FracR w (.agg #[.bool p.b1, .slice p.a1 p.n1 p.c1, .bool p.b2, .slice p.a2 p.n2 p.c2]) d.p) (h2 : FracR w (.agg #[.bool q.b1, .slice q.a1 q.n1 q.c1, .bool q.b2, .slice q.a2 q.n2 q.c2]) d.q) : PartR w (.agg #[.string d.nm, .int .u8 d.kd, .bool p.b1, .slice p.a1 p.n1 p.c1, .bool p.b2, .slice p.a2 p.n2 p.c2, .bool q.b1, .slice q.a1 q.n1 q.c1, .bool q.b2, .slice q.a2 q.n2 q.c2, .int .i64 d.co]) d :=
  ⟨_, _, _, _, _, _, _, _, _, _, _, _, _, _, _, _, rfl, h1, h2⟩
theorem may_v (nm : ByteArray) (kd co : Int) (p q : FV) (op oq : Option Rat) (w : World) (h1 : AnyF w (.agg #[.bool p.b1, .slice p.a1 p.n1 p.c1, .bool p.b2, .slice p.a2 p.n2 p.c2]) op) (h2 : AnyF w (.agg #[.bool q.b1, .slice q.a1 q.n1 q.c1, .bool q.b2, .slice q.a2 q.n2 q.c2]) oq) :
    Calls Tryz.prog 34 #[.agg #[.string nm, .int .u8 kd, .bool p.b1, .slice p.a1 p.n1 p.c1, .bool p.b2, .slice p.a2 p.n2 p.c2, .bool q.b1, .slice q.a1 q.n1 q.c1, .bool q.b2, .slice q.a2 q.n2 q.c2, .int .i64 co]] w fun e w' => e = .returned (.bool (mayP kd co op oq)) ∧ Ext w w' :=
  may_c nm kd co _ _ _ _ _ _ _ _ _ _ _ _ _ _ _ _ op oq w h1 h2
end Go.Proofs.YtkkfgphcmnhabaaGreatDoor
