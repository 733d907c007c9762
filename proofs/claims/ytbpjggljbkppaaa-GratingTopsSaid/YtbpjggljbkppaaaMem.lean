/-
  What is read in memory stays readable: slices of limbs, whole numbers. No function.
-/
import Derived.Test.YtbpjggljbkppaaaNum
import Derived.Test.YtbpjggljbkppaaaProg
import Derived.Test.YtbpjggljbkppaaaFree
import Derived.KernelRfl
import Derived.Laws.CopyOwn
namespace Go.Proofs.Ytbpjggljbkppaaa
open Go Go.RowKit Go.Proofs
/-- All that was there is as it was. -/
def Ext (w w' : World) : Prop := Below w.heap.size w w'
theorem Ext.refl (w : World) : Ext w w := Below.refl _ _
theorem Ext.trans {a b c : World} (h : Ext a b) (k : Ext b c) : Ext a c := Below.trans h (Below.mono k h.size)
theorem Ext.size {a b : World} (h : Ext a b) : a.heap.size ≤ b.heap.size := Below.size h
theorem Ext.al {w w' : World} (h : Ext w w') (o : Obj) : Ext w (w'.alloc o) := Below.alloc h h.size o
theorem Ext.dr {w w' : World} (h : Ext w w') : Ext w w'.drew := Below.drew h
theorem Ext.drN {w w' : World} (h : Ext w w') (n : Nat) : Ext w (w'.drewN n) := ⟨h.os, h.tape, h.output, h.size, h.block⟩
theorem Ext.st {w w' : World} (h : Ext w w') {p : Addr} (hp : w.heap.size ≤ p.block) (u : Value) : Ext w (w'.setCell p u) := Below.setCell h hp u
theorem Ext.gr {a w w' : World} {row : Option Nat} (h : Ext a w) (hg : w.grownBy w' row) (hr : ∀ k, row = some k → a.heap.size ≤ k) : Ext a w' := Below.grown h hg h.size hr
theorem Ext.cell {w w' : World} (h : Ext w w') {p : Addr} {v : Value} (hv : w.cell? p = some v) : w'.cell? p = some v := by
  have hlt : p.block < w.heap.size := by
    unfold World.cell? at hv
    split at hv
    · rename_i he
      exact (Array.getElem?_eq_some_iff.1 he).1
    · cases hv
  rw [Below.cell h hlt]
  exact hv
theorem Ext.row {w w' : World} (h : Ext w w') {g : Nat} (hg : w.heap.size ≤ g) (cs : Array Value) : Ext w (w'.setRow g cs) := below_setRow h hg cs
/-- A new block, later. -/
theorem Ext.new {w w2 : World} {o : Obj} (h : Ext (w.alloc o) w2) : w2.heap[w.heap.size]? = some o := by
  rw [Below.block h w.heap.size (by simp)]
  exact heap_alloc_new w o
theorem Ext.blk {w w2 : World} (h : Ext w w2) {g : Nat} {o : Obj} (hg : w.heap[g]? = some o) : w2.heap[g]? = some o := by
  rw [Below.block h g (Array.getElem?_eq_some_iff.1 hg).1]
  exact hg
theorem heap_at (w : World) (o : Obj) (n : Nat) (h : n = w.heap.size) : (w.alloc o).heap[n]? = some o := by
  subst h
  exact heap_alloc_new w o
theorem Row.ext {w w' : World} {a : Option Addr} {xs : List Value} (h : Row w a xs) (e : Ext w w') : Row w' a xs := by
  obtain ⟨b, off, h1, h2⟩ := h
  exact ⟨b, off, h1, fun j hj => e.cell (h2 j hj)⟩
theorem Row.take {w : World} {a : Option Addr} {xs : List Value} (h : Row w a xs) (n : Nat) : Row w a (xs.take n) := by
  obtain ⟨b, off, h1, h2⟩ := h
  refine ⟨b, off, fun hne => h1 (fun h0 => hne (by rw [h0]; simp)), fun j hj => ?_⟩
  have hj' : j < n ∧ j < xs.length := by simpa [List.length_take, Nat.lt_min] using hj
  rw [h2 j hj'.2]
  simp [List.getD_eq_getElem?_getD, hj'.1]
theorem row_nil (w : World) : Row w none [] := ⟨0, 0, fun h => absurd rfl h, fun j hj => by simp at hj⟩
/-- A slice that reads as limbs. -/
def MagR (w : World) (s : Value) (l : List Nat) : Prop := ∃ a c, s = .slice a l.length c ∧ l.length ≤ c ∧ Row w a (limV l)
/-- A slice of limbs in memory of its own, from a block on. -/
def MagO (w : World) (base : Nat) (s : Value) (l : List Nat) : Prop := w.ownsRow base 57 1 s l.length (limV l)
theorem MagR.ext {w w' : World} {s : Value} {l : List Nat} (h : MagR w s l) (e : Ext w w') : MagR w' s l := by
  obtain ⟨a, c, h1, h0, h2⟩ := h
  exact ⟨a, c, h1, h0, h2.ext e⟩
theorem ownsRow_ext {w w' : World} {base E sz n : Nat} {v : Value} {xs : List Value} (h : w.ownsRow base E sz v n xs) (e : Ext w w') : w'.ownsRow base E sz v n xs := by
  obtain ⟨h1, h2⟩ := h
  refine ⟨h1, ?_⟩
  rcases h2 with h2 | ⟨g, cap, cur, a1, a2, a3, a4⟩
  · exact .inl h2
  · refine .inr ⟨g, cap, cur, a1, a2, ?_, a4⟩
    rw [Below.block e g (Array.getElem?_eq_some_iff.1 a3).1]
    exact a3
theorem ownsRow_mono {w : World} {base base' E sz n : Nat} {v : Value} {xs : List Value} (h : w.ownsRow base E sz v n xs) (hb : base' ≤ base) : w.ownsRow base' E sz v n xs := by
  obtain ⟨h1, h2⟩ := h
  refine ⟨h1, ?_⟩
  rcases h2 with h2 | ⟨g, cap, cur, a1, a2, a3⟩
  · exact .inl h2
  · exact .inr ⟨g, cap, cur, a1, by omega, a3⟩
theorem ownsRow_row {w : World} {base E sz n g : Nat} {v : Value} {xs : List Value} (h : w.ownsRow base E sz v n xs) (hg : g < base) (cs : Array Value) : (w.setRow g cs).ownsRow base E sz v n xs := by
  obtain ⟨h1, h2⟩ := h
  refine ⟨h1, ?_⟩
  rcases h2 with h2 | ⟨k, cap, cur, a1, a2, a3, a4⟩
  · exact .inl h2
  · refine .inr ⟨k, cap, cur, a1, a2, ?_, a4⟩
    rw [setRow_other _ _ _ _ (by omega)]
    exact a3
theorem row_of_owns {w : World} {base E n : Nat} {v : Value} {xs : List Value} (h : w.ownsRow base E 1 v n xs) : ∃ a c, v = .slice a n c ∧ n ≤ c ∧ Row w a xs := by
  obtain ⟨h1, h2⟩ := h
  rcases h2 with ⟨rfl, rfl⟩ | ⟨g, cap, cur, rfl, a2, a3, a4, a5, a6, a7⟩
  · have : xs = [] := List.eq_nil_of_length_eq_zero (by simpa using h1)
    subst this
    exact ⟨none, 0, rfl, Nat.le_refl _, row_nil w⟩
  · refine ⟨_, _, rfl, a4, g, 0, fun _ => rfl, fun j hj => ?_⟩
    have hj2 : j < cur.size := by omega
    have e : xs.getD j undef = cur[j] := by
      subst a7
      simp [List.getD_eq_getElem?_getD, show j < n by omega, hj2]
    rw [e]
    simp [World.cell?, a3, hj2]
theorem MagO.r {w : World} {base : Nat} {s : Value} {l : List Nat} (h : MagO w base s l) : MagR w s l := row_of_owns h
theorem MagO.ext {w w' : World} {base : Nat} {s : Value} {l : List Nat} (h : MagO w base s l) (e : Ext w w') : MagO w' base s l := ownsRow_ext h e
theorem MagO.mono {w : World} {base base' : Nat} {s : Value} {l : List Nat} (h : MagO w base s l) (hb : base' ≤ base) : MagO w base' s l := ownsRow_mono h hb
theorem magO_nil (w : World) (base : Nat) : MagO w base (.slice none 0 0) [] := World.ownsRow_nil _ _ _ _
/-- The first part of a list in memory of its own. -/
theorem ownsRow_take {w : World} {base E n : Nat} {a : Option Addr} {c : Nat} {xs : List Value} (h : w.ownsRow base E 1 (.slice a n c) n xs) {m : Nat} (hm : m ≤ n) : w.ownsRow base E 1 (.slice a m c) m (xs.take m) := by
  obtain ⟨h1, h2⟩ := h
  refine ⟨by rw [List.length_take]; omega, ?_⟩
  rcases h2 with ⟨h2, h3⟩ | ⟨g, cap, cur, a1, a2, a3, a4, a5, a6, a7⟩
  · cases h2
    exact .inl ⟨by rw [show m = 0 by omega], by omega⟩
  · simp only [Value.slice.injEq] at a1
    obtain ⟨rfl, _, rfl⟩ := a1
    refine .inr ⟨g, c, cur, rfl, a2, a3, by omega, a5, a6, ?_⟩
    rw [← a7, List.take_take]
    congr 1
    omega
/-- A whole number that reads so. -/
def IntR (w : World) (v : Value) (x : Int) : Prop := ∃ s, v = .agg #[.bool (decide (x < 0)), s] ∧ MagR w s (lim x.natAbs)
/-- A whole number in memory of its own. -/
def IntO (w : World) (base : Nat) (v : Value) (x : Int) : Prop := ∃ s, v = .agg #[.bool (decide (x < 0)), s] ∧ MagO w base s (lim x.natAbs)
theorem IntO.r {w : World} {base : Nat} {v : Value} {x : Int} (h : IntO w base v x) : IntR w v x := by
  obtain ⟨s, h1, h2⟩ := h
  exact ⟨s, h1, h2.r⟩
theorem IntR.ext {w w' : World} {v : Value} {x : Int} (h : IntR w v x) (e : Ext w w') : IntR w' v x := by
  obtain ⟨s, h1, h2⟩ := h
  exact ⟨s, h1, h2.ext e⟩
theorem IntO.ext {w w' : World} {base : Nat} {v : Value} {x : Int} (h : IntO w base v x) (e : Ext w w') : IntO w' base v x := by
  obtain ⟨s, h1, h2⟩ := h
  exact ⟨s, h1, h2.ext e⟩
theorem IntO.row {w : World} {base g : Nat} {v : Value} {x : Int} (h : IntO w base v x) (hg : g < base) (cs : Array Value) : IntO (w.setRow g cs) base v x := by
  obtain ⟨s, h1, h2⟩ := h
  exact ⟨s, h1, ownsRow_row h2 hg cs⟩
theorem IntO.mono {w : World} {base base' : Nat} {v : Value} {x : Int} (h : IntO w base v x) (hb : base' ≤ base) : IntO w base' v x := by
  obtain ⟨s, h1, h2⟩ := h
  exact ⟨s, h1, h2.mono hb⟩
theorem MagR.shape {w : World} {s : Value} {l : List Nat} (h : MagR w s l) : ∃ a n c, s = .slice a n c := by
  obtain ⟨a, c, h1, _⟩ := h
  exact ⟨a, _, c, h1⟩
/-- The cells of a whole number's value. -/
theorem IntR.shape {w : World} {v : Value} {x : Int} (h : IntR w v x) : ∃ b a n c, v = .agg #[.bool b, .slice a n c] := by
  obtain ⟨s, h1, h2⟩ := h
  obtain ⟨a, n, c, rfl⟩ := h2.shape
  exact ⟨_, a, n, c, h1⟩
/-- Limbs in memory of their own, noughts at the end allowed, of a number. -/
def RawO (w : World) (base : Nat) (v : Value) (n : Nat) : Prop := ∃ r, MagO w base v r ∧ OkL r ∧ r.length ≤ 4294967296 ∧ val r = n
theorem RawO.ext {w w' : World} {base : Nat} {v : Value} {n : Nat} (h : RawO w base v n) (e : Ext w w') : RawO w' base v n := by
  obtain ⟨r, h1, h2⟩ := h
  exact ⟨r, h1.ext e, h2⟩
theorem RawO.mono {w : World} {base base' : Nat} {v : Value} {n : Nat} (h : RawO w base v n) (hb : base' ≤ base) : RawO w base' v n := by
  obtain ⟨r, h1, h2⟩ := h
  exact ⟨r, h1.mono hb, h2⟩
theorem mixed : Try.prog.follows .mixedOrders = true := by kernel_rfl
/-- A region whose calls make memory and change none that was there. -/
theorem region_ext {id : Nat} {l : List Oper} {a : Act} {w : World} {Q : Exit → Act → World → Prop} (specs : List FSpec) (hok : okFree specs.length a.tmps.size l = true) (hst : StableAll Ext specs)
    (h : freeSteps Try.prog l Ext w Q 0 specs l a []) : (Code.region id l.toArray true).wp Try.prog Q a w :=
  region_free Ext specs mixed hok Ext.refl (fun _ _ _ => Ext.trans) (fun w => (Ext.refl w).dr) (stableAll_mem hst) h
theorem st_intO {ss : List FSpec} (b : Nat) (x : Int) (h : StableAll Ext ss) : StableAll Ext (.pred (fun W v => IntO W b v x) :: ss) := ⟨fun _ _ _ e h => IntO.ext h e, h⟩
theorem st_rawO {ss : List FSpec} (b n : Nat) (h : StableAll Ext ss) : StableAll Ext (.pred (fun W v => RawO W b v n) :: ss) := ⟨fun _ _ _ e h => RawO.ext h e, h⟩
end Go.Proofs.Ytbpjggljbkppaaa
