/-
  ray: keeper's methods matrix and ray, fourOf, four.matrix. ray: keeper.ray, fourOf, four.matrix, Through$1. ray: Through: printed by tools/gen_thr.py. ray: Through: printed by tools/gen_thr2.py.
-/
import Derived.Test.YtpmfohhpaoagfaaMK
import Derived.Test.YtpmfohhpaoagfaaMJ
import Derived.Test.YtpmfohhpaoagfaaML
namespace Go.Proofs.Ytpmfohhpaoagfaa
open Go Go.RowKit Go.Proofs
/-- A store into a block whose first cell is a number of 64 bits leaves limbs. -/
theorem Row.keep {w : World} {a : Option Addr} {l : List Nat} {g T : Nat} {fr : Nat × Nat} {e : Int} (h : Row w a (limV l)) (hg : w.heap[g]? = some (.cells #[.int .i64 e] T fr)) (cs : Array Value) : Row (w.setRow g cs) a (limV l) := by
  obtain ⟨b, off, h1, h2⟩ := h
  refine ⟨b, off, h1, fun j hj => ?_⟩
  have hc := h2 j hj
  have hne : b ≠ g := by
    rintro rfl
    rw [limV_getD _ _ (by rw [limV_length] at hj; exact hj)] at hc
    simp only [World.cell?, hg] at hc
    have hc2 : (#[Value.int .i64 e])[off + j]? = some (.int .u32 ((l.getD j 0 : Nat) : Int)) := by simpa using hc
    obtain ⟨hlt, he⟩ := Array.getElem?_eq_some_iff.1 hc2
    have : off + j = 0 := by simp at hlt; omega
    simp [this] at he
  have : ((w.setRow g cs).heap[b]?) = w.heap[b]? := setRow_other _ _ _ _ hne
  simp only [World.cell?, this] at hc ⊢
  exact hc
theorem AnyF.keep {w : World} {v : Value} {o : Option Rat} {g T : Nat} {fr : Nat × Nat} {e : Int} (h : AnyF w v o) (hg : w.heap[g]? = some (.cells #[.int .i64 e] T fr)) (cs : Array Value) : AnyF (w.setRow g cs) v o := by
  obtain ⟨b1, l1, b2, l2, ⟨a1, c1, a2, c2, h1, h2, h3, ⟨x1, y1, e1, f1, g1, r1⟩, ⟨x2, y2, e2, f2, g2, r2⟩⟩, h6⟩ := h
  exact ⟨b1, l1, b2, l2, ⟨a1, c1, a2, c2, h1, h2, h3, ⟨x1, y1, e1, f1, g1, r1.keep hg cs⟩, ⟨x2, y2, e2, f2, g2, r2.keep hg cs⟩⟩, h6⟩
/-- All but the keeper's block g is as it was. -/
structure KC (g : Nat) (w w' : World) : Prop where
  ext : ∀ we, Ext we w → we.heap.size ≤ g → Ext we w'
  blk : ∀ b o, b ≠ g → w.heap[b]? = some o → w'.heap[b]? = some o
  any : ∀ v o, AnyF w v o → AnyF w' v o
theorem KC.of_ext {g : Nat} {w w' : World} (h : Ext w w') : KC g w w' := ⟨fun _ h1 _ => h1.trans h, fun _ _ _ h1 => h.blk h1, fun _ _ h1 => h1.ext h⟩
theorem KC.trans {g : Nat} {a b c : World} (h : KC g a b) (k : KC g b c) : KC g a c :=
  ⟨fun we h1 h2 => k.ext we (h.ext we h1 h2) h2, fun x o h1 h2 => k.blk x o h1 (h.blk x o h1 h2), fun v q h1 => k.any v q (h.any v q h1)⟩
theorem KC.of_row {g T : Nat} {w : World} {e : Int} (hg : w.heap[g]? = some (.cells #[.int .i64 e] T (0, 0))) (cs : Array Value) : KC g w (w.setRow g cs) :=
  ⟨fun _ h1 h2 => h1.row h2 cs, fun b o h1 h3 => by rw [setRow_other _ _ _ _ h1]; exact h3, fun _ _ h1 => h1.keep hg cs⟩
theorem set1_row {w : World} {g T : Nat} {fr : Nat × Nat} {x u : Value} (h : w.heap[g]? = some (.cells #[x] T fr)) : w.setCell ⟨g, 0, none⟩ u = w.setRow g #[u] := by
  have e : (w.setCell ⟨g, 0, none⟩ u).heap = (w.setRow g #[u]).heap := by
    refine Array.ext_getElem? fun k => ?_
    unfold World.setCell World.setRow
    simp only [Array.getElem?_modify]
    by_cases hk : g = k
    · subst hk
      simp [h]
    · simp [hk]
  unfold World.setCell World.setRow at *
  simpa using e
theorem AnyM.any {g : Nat} {w w' : World} (k : KC g w w') {v : Value} {oa ob oc od : Option Rat} (h : AnyM w v oa ob oc od) : AnyM w' v oa ob oc od := by
  obtain ⟨A1, A2, A3, A4, A5, A6, A7, A8, B1, B2, B3, B4, B5, B6, B7, B8, C1, C2, C3, C4, C5, C6, C7, C8, D1, D2, D3, D4, D5, D6, D7, D8, h0, h1, h2, h3, h4⟩ := h
  exact ⟨A1, A2, A3, A4, A5, A6, A7, A8, B1, B2, B3, B4, B5, B6, B7, B8, C1, C2, C3, C4, C5, C6, C7, C8, D1, D2, D3, D4, D5, D6, D7, D8, h0, k.any _ _ h1, k.any _ _ h2, k.any _ _ h3, k.any _ _ h4⟩
theorem AnyY.any {g : Nat} {w w' : World} (k : KC g w w') {v : Value} {oy ou : Option Rat} (h : AnyY w v oy ou) : AnyY w' v oy ou := by
  obtain ⟨A1, A2, A3, A4, A5, A6, A7, A8, B1, B2, B3, B4, B5, B6, B7, B8, h0, h1, h2⟩ := h
  exact ⟨A1, A2, A3, A4, A5, A6, A7, A8, B1, B2, B3, B4, B5, B6, B7, B8, h0, k.any _ _ h1, k.any _ _ h2⟩
/-- The keeper's block holds this error. -/
def KAt (w : World) (g : Nat) (e : Int) : Prop := w.heap[g]? = some (.cells #[.int .i64 e] 83 (0, 0))
set_option maxHeartbeats 3200000 in
theorem kmat1 (g : Nat) (e : Int) (v : Value) (oa ob oc od : Option Rat) (w : World) (he : (e == 0) = false) (hk : KAt w g e) (h : AnyM w v oa ob oc od) :
    Calls Try.prog 52 #[.pointer (some ⟨g, 0, none⟩), v] w fun x w' => x = .returned (.tuple #[]) ∧ KC g w w' ∧ KAt w' g e := by
  obtain ⟨A1, A2, A3, A4, A5, A6, A7, A8, B1, B2, B3, B4, B5, B6, B7, B8, C1, C2, C3, C4, C5, C6, C7, C8, D1, D2, D3, D4, D5, D6, D7, D8, rfl, -⟩ := h
  have hE := (Ext.refl w).al (.cells #[.bool A1, .slice A2 A3 A4, .bool A5, .slice A6 A7 A8, .bool B1, .slice B2 B3 B4, .bool B5, .slice B6 B7 B8, .bool C1, .slice C2 C3 C4, .bool C5, .slice C6 C7 C8, .bool D1, .slice D2 D3 D4, .bool D5, .slice D6 D7 D8] 40)
  have y0 : w.cell? ⟨g, 0, none⟩ = some (.int .i64 e) := by simp [World.cell?, show w.heap[g]? = some (.cells #[.int .i64 e] 83 (0, 0)) from hk]
  have lt : g < w.heap.size := (Array.getElem?_eq_some_iff.1 hk).1
  have hC : KC g w _ := KC.of_ext hE
  have hK : KAt _ g e := hE.blk hk
  replace hC := mkHid hC
  replace hK := mkHid hK
  clear hE hk
  go_enter Try.func52, Try.ntmps52
  go_wp2_with fail
  go_end0
  exact ⟨rfl, hC.out, hK.out⟩
set_option maxHeartbeats 3200000 in
theorem kmat0 (g : Nat) (v : Value) (oa ob oc od : Option Rat) (w : World) (hk : KAt w g 0) (h : AnyM w v oa ob oc od) :
    Calls Try.prog 52 #[.pointer (some ⟨g, 0, none⟩), v] w fun x w' => x = .returned (.tuple #[]) ∧ KC g w w' ∧ KAt w' g (if okM oa ob oc od then 0 else 1) := by
  have H := h
  obtain ⟨A1, A2, A3, A4, A5, A6, A7, A8, B1, B2, B3, B4, B5, B6, B7, B8, C1, C2, C3, C4, C5, C6, C7, C8, D1, D2, D3, D4, D5, D6, D7, D8, rfl, -⟩ := h
  have hE := (Ext.refl w).al (.cells #[.bool A1, .slice A2 A3 A4, .bool A5, .slice A6 A7 A8, .bool B1, .slice B2 B3 B4, .bool B5, .slice B6 B7 B8, .bool C1, .slice C2 C3 C4, .bool C5, .slice C6 C7 C8, .bool D1, .slice D2 D3 D4, .bool D5, .slice D6 D7 D8] 40)
  have y0 : w.cell? ⟨g, 0, none⟩ = some (.int .i64 0) := by simp [World.cell?, show w.heap[g]? = some (.cells #[.int .i64 0] 83 (0, 0)) from hk]
  have lt : g < w.heap.size := (Array.getElem?_eq_some_iff.1 hk).1
  have kc := mkHid (check_m _ oa ob oc od _ (H.ext hE))
  generalize (if okM oa ob oc od then (0 : Int) else 1) = E at *
  replace hk := mkHid (show w.heap[g]? = some (.cells #[.int .i64 0] 83 (0, 0)) from hk)
  replace hE := mkHid hE
  clear H
  go_enter Try.func52, Try.ntmps52
  go_wp2_with fail
  refine kc.out.mono ?_
  rintro x w1 ⟨rfl, hx⟩
  have hX := hE.out.trans hx
  have hk1 := hX.blk hk.out
  have f0 := row2_frozen hk1 0
  have y1 : w1.cell? ⟨g, 0, none⟩ = some (.int .i64 0) := by simp [World.cell?, hk1]
  have hfin := mkHid (show KC g w (w1.setRow g #[.int .i64 E]) ∧ KAt (w1.setRow g #[.int .i64 E]) g E from ⟨(KC.of_ext hX).trans (KC.of_row hk1 _), setRow_heap _ _ _ _ _ _ hk1⟩)
  replace hk1 := mkHid hk1
  clear hX hx hE kc y0 lt hk
  go_wp2_with fail
  rw [set1_row hk1.out]
  go_end0
  exact ⟨rfl, hfin.out.1, hfin.out.2⟩
end Go.Proofs.Ytpmfohhpaoagfaa
namespace Go.Proofs.Ytpmfohhpaoagfaa
open Go Go.RowKit Go.Proofs
set_option maxHeartbeats 3200000 in
theorem kray1 (g : Nat) (e : Int) (v : Value) (oy ou : Option Rat) (w : World) (he : (e == 0) = false) (hk : KAt w g e) (h : AnyY w v oy ou) :
    Calls Try.prog 58 #[.pointer (some ⟨g, 0, none⟩), v] w fun x w' => x = .returned (.tuple #[]) ∧ KC g w w' ∧ KAt w' g e := by
  obtain ⟨A1, A2, A3, A4, A5, A6, A7, A8, B1, B2, B3, B4, B5, B6, B7, B8, rfl, -⟩ := h
  have hE := (Ext.refl w).al (.cells #[.bool A1, .slice A2 A3 A4, .bool A5, .slice A6 A7 A8, .bool B1, .slice B2 B3 B4, .bool B5, .slice B6 B7 B8] 48)
  have y0 : w.cell? ⟨g, 0, none⟩ = some (.int .i64 e) := by simp [World.cell?, show w.heap[g]? = some (.cells #[.int .i64 e] 83 (0, 0)) from hk]
  have lt : g < w.heap.size := (Array.getElem?_eq_some_iff.1 hk).1
  have hC : KC g w _ := KC.of_ext hE
  have hK : KAt _ g e := hE.blk hk
  replace hC := mkHid hC
  replace hK := mkHid hK
  clear hE hk
  go_enter Try.func58, Try.ntmps58
  go_wp2_with fail
  go_end0
  exact ⟨rfl, hC.out, hK.out⟩
/-- What keeper.ray keeps, of two values. -/
def okY (oy ou : Option Rat) : Bool := [oy, ou].all Option.isSome
set_option maxHeartbeats 3200000 in
theorem kray0 (g : Nat) (v : Value) (oy ou : Option Rat) (w : World) (hk : KAt w g 0) (h : AnyY w v oy ou) :
    Calls Try.prog 58 #[.pointer (some ⟨g, 0, none⟩), v] w fun x w' => x = .returned (.tuple #[]) ∧ KC g w w' ∧ KAt w' g (if okY oy ou then 0 else 1) := by
  obtain ⟨A1, A2, A3, A4, A5, A6, A7, A8, B1, B2, B3, B4, B5, B6, B7, B8, rfl, r1, r2⟩ := h
  have hE := ((Ext.refl w).al (.cells #[.bool A1, .slice A2 A3 A4, .bool A5, .slice A6 A7 A8, .bool B1, .slice B2 B3 B4, .bool B5, .slice B6 B7 B8] 48)).al (.cells #[.bool A1, .slice A2 A3 A4, .bool A5, .slice A6 A7 A8, .bool B1, .slice B2 B3 B4, .bool B5, .slice B6 B7 B8] 26)
  have y0 : w.cell? ⟨g, 0, none⟩ = some (.int .i64 0) := by simp [World.cell?, show w.heap[g]? = some (.cells #[.int .i64 0] 83 (0, 0)) from hk]
  have lt : g < w.heap.size := (Array.getElem?_eq_some_iff.1 hk).1
  have kc := mkHid (checks_f (w.heap.size + 1) 2 [oy, ou] _ (by simp) (lf_two (heap_at _ _ _ (by simp)) (r1.ext hE) (r2.ext hE)))
  rw [show [oy, ou].length = 2 from rfl] at kc
  unfold okY
  replace hk := mkHid (show w.heap[g]? = some (.cells #[.int .i64 0] 83 (0, 0)) from hk)
  replace hE := mkHid hE
  clear r1 r2
  generalize [oy, ou].all Option.isSome = B at *
  cases B with
  | true =>
    rw [if_pos rfl]
    go_enter Try.func58, Try.ntmps58
    go_wp2_with fail
    refine kc.out.mono ?_
    rintro x w1 ⟨rfl, hx⟩
    have hX := hE.out.trans hx
    have hfin := mkHid (show KC g w w1 ∧ KAt w1 g 0 from ⟨KC.of_ext hX, hX.blk hk.out⟩)
    clear hX hx hE kc y0 lt hk
    go_wp2_with fail
    go_end0
    exact ⟨rfl, hfin.out.1, hfin.out.2⟩
  | false =>
    rw [if_neg (by decide)]
    go_enter Try.func58, Try.ntmps58
    go_wp2_with fail
    refine kc.out.mono ?_
    rintro x w1 ⟨rfl, hx⟩
    have hX := hE.out.trans hx
    have hk1 := hX.blk hk.out
    have f0 := row2_frozen hk1 0
    have y1 : w1.cell? ⟨g, 0, none⟩ = some (.int .i64 0) := by simp [World.cell?, hk1]
    have hfin := mkHid (show KC g w (w1.setRow g #[.int .i64 1]) ∧ KAt (w1.setRow g #[.int .i64 1]) g 1 from ⟨(KC.of_ext hX).trans (KC.of_row hk1 _), setRow_heap _ _ _ _ _ _ hk1⟩)
    replace hk1 := mkHid hk1
    clear hX hx hE kc y0 lt hk
    go_wp2_with fail
    rw [set1_row hk1.out]
    go_end0
    exact ⟨rfl, hfin.out.1, hfin.out.2⟩
set_option maxHeartbeats 3200000 in
theorem fourOf_c (A1 : Bool) (A2 : Option Addr) (A3 A4 : Nat) (A5 : Bool) (A6 : Option Addr) (A7 A8 : Nat) (B1 : Bool) (B2 : Option Addr) (B3 B4 : Nat) (B5 : Bool) (B6 : Option Addr) (B7 B8 : Nat) (C1 : Bool) (C2 : Option Addr) (C3 C4 : Nat) (C5 : Bool) (C6 : Option Addr) (C7 C8 : Nat) (D1 : Bool) (D2 : Option Addr) (D3 D4 : Nat) (D5 : Bool) (D6 : Option Addr) (D7 D8 : Nat) (w : World) :
    Calls Try.prog 55 #[.agg #[.bool A1, .slice A2 A3 A4, .bool A5, .slice A6 A7 A8, .bool B1, .slice B2 B3 B4, .bool B5, .slice B6 B7 B8, .bool C1, .slice C2 C3 C4, .bool C5, .slice C6 C7 C8, .bool D1, .slice D2 D3 D4, .bool D5, .slice D6 D7 D8]] w fun e w' =>
      e = .returned (.agg #[.bool A1, .slice A2 A3 A4, .bool A5, .slice A6 A7 A8, .bool B1, .slice B2 B3 B4, .bool B5, .slice B6 B7 B8, .bool C1, .slice C2 C3 C4, .bool C5, .slice C6 C7 C8, .bool D1, .slice D2 D3 D4, .bool D5, .slice D6 D7 D8]) ∧ Ext w w' := by
  have hE := ((Ext.refl w).al (.cells #[.bool A1, .slice A2 A3 A4, .bool A5, .slice A6 A7 A8, .bool B1, .slice B2 B3 B4, .bool B5, .slice B6 B7 B8, .bool C1, .slice C2 C3 C4, .bool C5, .slice C6 C7 C8, .bool D1, .slice D2 D3 D4, .bool D5, .slice D6 D7 D8] 40)).al (.cells #[.bool false, .slice none 0 0, .bool false, .slice none 0 0, .bool false, .slice none 0 0, .bool false, .slice none 0 0, .bool false, .slice none 0 0, .bool false, .slice none 0 0, .bool false, .slice none 0 0, .bool false, .slice none 0 0] 87)
  have hB := heap_at (w.alloc (.cells #[.bool A1, .slice A2 A3 A4, .bool A5, .slice A6 A7 A8, .bool B1, .slice B2 B3 B4, .bool B5, .slice B6 B7 B8, .bool C1, .slice C2 C3 C4, .bool C5, .slice C6 C7 C8, .bool D1, .slice D2 D3 D4, .bool D5, .slice D6 D7 D8] 40)) (.cells #[.bool false, .slice none 0 0, .bool false, .slice none 0 0, .bool false, .slice none 0 0, .bool false, .slice none 0 0, .bool false, .slice none 0 0, .bool false, .slice none 0 0, .bool false, .slice none 0 0, .bool false, .slice none 0 0] 87) (w.heap.size + 1) (by simp)
  have FE := hE.row (show w.heap.size ≤ w.heap.size + 1 by omega) #[.bool A1, .slice A2 A3 A4, .bool A5, .slice A6 A7 A8, .bool B1, .slice B2 B3 B4, .bool B5, .slice B6 B7 B8, .bool C1, .slice C2 C3 C4, .bool C5, .slice C6 C7 C8, .bool D1, .slice D2 D3 D4, .bool D5, .slice D6 D7 D8]
  replace FE := mkHid FE
  replace hB := mkHid hB
  clear hE
  go_enter Try.func55, Try.ntmps55
  go_wp2_with (refine wpList_store_row rfl 87 (.tmp 2) (.tmp 11) rfl (w.heap.size + 1) #[.bool A1, .slice A2 A3 A4, .bool A5, .slice A6 A7 A8, .bool B1, .slice B2 B3 B4, .bool B5, .slice B6 B7 B8, .bool C1, .slice C2 C3 C4, .bool C5, .slice C6 C7 C8, .bool D1, .slice D2 D3 D4, .bool D5, .slice D6 D7 D8] rfl rfl 87 _ hB.out (by kernel_rfl) rfl (by kernel_rfl) ?_)
  exact bodyPost_ret (results_cell_row rfl _ _ (w.heap.size + 1) 87 #[.bool A1, .slice A2 A3 A4, .bool A5, .slice A6 A7 A8, .bool B1, .slice B2 B3 B4, .bool B5, .slice B6 B7 B8, .bool C1, .slice C2 C3 C4, .bool C5, .slice C6 C7 C8, .bool D1, .slice D2 D3 D4, .bool D5, .slice D6 D7 D8] (0, 0) _ rfl (setRow_heap _ _ _ _ _ _ hB.out) Try.underlying87 rfl (by kernel_rfl)) rfl ⟨rfl, FE.out⟩
set_option maxHeartbeats 3200000 in
theorem fourM_c (A1 : Bool) (A2 : Option Addr) (A3 A4 : Nat) (A5 : Bool) (A6 : Option Addr) (A7 A8 : Nat) (B1 : Bool) (B2 : Option Addr) (B3 B4 : Nat) (B5 : Bool) (B6 : Option Addr) (B7 B8 : Nat) (C1 : Bool) (C2 : Option Addr) (C3 C4 : Nat) (C5 : Bool) (C6 : Option Addr) (C7 C8 : Nat) (D1 : Bool) (D2 : Option Addr) (D3 D4 : Nat) (D5 : Bool) (D6 : Option Addr) (D7 D8 : Nat) (w : World) :
    Calls Try.prog 78 #[.agg #[.bool A1, .slice A2 A3 A4, .bool A5, .slice A6 A7 A8, .bool B1, .slice B2 B3 B4, .bool B5, .slice B6 B7 B8, .bool C1, .slice C2 C3 C4, .bool C5, .slice C6 C7 C8, .bool D1, .slice D2 D3 D4, .bool D5, .slice D6 D7 D8]] w fun e w' =>
      e = .returned (.agg #[.bool A1, .slice A2 A3 A4, .bool A5, .slice A6 A7 A8, .bool B1, .slice B2 B3 B4, .bool B5, .slice B6 B7 B8, .bool C1, .slice C2 C3 C4, .bool C5, .slice C6 C7 C8, .bool D1, .slice D2 D3 D4, .bool D5, .slice D6 D7 D8]) ∧ Ext w w' := by
  have hE := ((Ext.refl w).al (.cells #[.bool A1, .slice A2 A3 A4, .bool A5, .slice A6 A7 A8, .bool B1, .slice B2 B3 B4, .bool B5, .slice B6 B7 B8, .bool C1, .slice C2 C3 C4, .bool C5, .slice C6 C7 C8, .bool D1, .slice D2 D3 D4, .bool D5, .slice D6 D7 D8] 87)).al (.cells #[.bool false, .slice none 0 0, .bool false, .slice none 0 0, .bool false, .slice none 0 0, .bool false, .slice none 0 0, .bool false, .slice none 0 0, .bool false, .slice none 0 0, .bool false, .slice none 0 0, .bool false, .slice none 0 0] 40)
  have hB := heap_at (w.alloc (.cells #[.bool A1, .slice A2 A3 A4, .bool A5, .slice A6 A7 A8, .bool B1, .slice B2 B3 B4, .bool B5, .slice B6 B7 B8, .bool C1, .slice C2 C3 C4, .bool C5, .slice C6 C7 C8, .bool D1, .slice D2 D3 D4, .bool D5, .slice D6 D7 D8] 87)) (.cells #[.bool false, .slice none 0 0, .bool false, .slice none 0 0, .bool false, .slice none 0 0, .bool false, .slice none 0 0, .bool false, .slice none 0 0, .bool false, .slice none 0 0, .bool false, .slice none 0 0, .bool false, .slice none 0 0] 40) (w.heap.size + 1) (by simp)
  have FE := hE.row (show w.heap.size ≤ w.heap.size + 1 by omega) #[.bool A1, .slice A2 A3 A4, .bool A5, .slice A6 A7 A8, .bool B1, .slice B2 B3 B4, .bool B5, .slice B6 B7 B8, .bool C1, .slice C2 C3 C4, .bool C5, .slice C6 C7 C8, .bool D1, .slice D2 D3 D4, .bool D5, .slice D6 D7 D8]
  replace FE := mkHid FE
  replace hB := mkHid hB
  clear hE
  go_enter Try.func78, Try.ntmps78
  go_wp2_with (refine wpList_store_row rfl 40 (.tmp 2) (.tmp 11) rfl (w.heap.size + 1) #[.bool A1, .slice A2 A3 A4, .bool A5, .slice A6 A7 A8, .bool B1, .slice B2 B3 B4, .bool B5, .slice B6 B7 B8, .bool C1, .slice C2 C3 C4, .bool C5, .slice C6 C7 C8, .bool D1, .slice D2 D3 D4, .bool D5, .slice D6 D7 D8] rfl rfl 40 _ hB.out (by kernel_rfl) rfl (by kernel_rfl) ?_)
  exact bodyPost_ret (results_cell_row rfl _ _ (w.heap.size + 1) 40 #[.bool A1, .slice A2 A3 A4, .bool A5, .slice A6 A7 A8, .bool B1, .slice B2 B3 B4, .bool B5, .slice B6 B7 B8, .bool C1, .slice C2 C3 C4, .bool C5, .slice C6 C7 C8, .bool D1, .slice D2 D3 D4, .bool D5, .slice D6 D7 D8] (0, 0) _ rfl (setRow_heap _ _ _ _ _ _ hB.out) Try.underlying40 rfl (by kernel_rfl)) rfl ⟨rfl, FE.out⟩
end Go.Proofs.Ytpmfohhpaoagfaa
namespace Go.Proofs.Ytpmfohhpaoagfaa
open Go Go.RowKit Go.Proofs
/-- Two fractions side by side in a block. -/
def TwoAt (w : World) (g : Nat) (p q : Rat) : Prop :=
  ∃ P1 P2 P3 P4 P5 P6 P7 P8 Q1 Q2 Q3 Q4 Q5 Q6 Q7 Q8, w.heap[g]? = some (.cells #[.bool P1, .slice P2 P3 P4, .bool P5, .slice P6 P7 P8, .bool Q1, .slice Q2 Q3 Q4, .bool Q5, .slice Q6 Q7 Q8] 26 (0, 0)) ∧ FracR w (.agg #[.bool P1, .slice P2 P3 P4, .bool P5, .slice P6 P7 P8]) p ∧ FracR w (.agg #[.bool Q1, .slice Q2 Q3 Q4, .bool Q5, .slice Q6 Q7 Q8]) q
set_option maxRecDepth 100000 in
set_option maxHeartbeats 6400000 in
theorem thr1_c (gm gr : Nat) (A1 : Bool) (A2 : Option Addr) (A3 A4 : Nat) (A5 : Bool) (A6 : Option Addr) (A7 A8 : Nat) (B1 : Bool) (B2 : Option Addr) (B3 B4 : Nat) (B5 : Bool) (B6 : Option Addr) (B7 B8 : Nat) (C1 : Bool) (C2 : Option Addr) (C3 C4 : Nat) (C5 : Bool) (C6 : Option Addr) (C7 C8 : Nat) (D1 : Bool) (D2 : Option Addr) (D3 D4 : Nat) (D5 : Bool) (D6 : Option Addr) (D7 D8 : Nat) (Y1 : Bool) (Y2 : Option Addr) (Y3 Y4 : Nat) (Y5 : Bool) (Y6 : Option Addr) (Y7 Y8 : Nat) (U1 : Bool) (U2 : Option Addr) (U3 U4 : Nat) (U5 : Bool) (U6 : Option Addr) (U7 U8 : Nat) (a b c d y u : Rat) (w : World)
    (na : nf a ≤ 67108864) (nb : nf b ≤ 67108864) (nc : nf c ≤ 67108864) (nd : nf d ≤ 67108864) (ny : nf y ≤ 67108864) (nu : nf u ≤ 67108864)
    (zM : w.heap[gm]? = some (.cells #[.bool A1, .slice A2 A3 A4, .bool A5, .slice A6 A7 A8, .bool B1, .slice B2 B3 B4, .bool B5, .slice B6 B7 B8, .bool C1, .slice C2 C3 C4, .bool C5, .slice C6 C7 C8, .bool D1, .slice D2 D3 D4, .bool D5, .slice D6 D7 D8] 40 (0, 0))) (zR : w.heap[gr]? = some (.cells #[.bool Y1, .slice Y2 Y3 Y4, .bool Y5, .slice Y6 Y7 Y8, .bool U1, .slice U2 U3 U4, .bool U5, .slice U6 U7 U8] 48 (0, 0)))
    (fA : FracR w (.agg #[.bool A1, .slice A2 A3 A4, .bool A5, .slice A6 A7 A8]) a) (fB : FracR w (.agg #[.bool B1, .slice B2 B3 B4, .bool B5, .slice B6 B7 B8]) b) (fC : FracR w (.agg #[.bool C1, .slice C2 C3 C4, .bool C5, .slice C6 C7 C8]) c) (fD : FracR w (.agg #[.bool D1, .slice D2 D3 D4, .bool D5, .slice D6 D7 D8]) d) (fY : FracR w (.agg #[.bool Y1, .slice Y2 Y3 Y4, .bool Y5, .slice Y6 Y7 Y8]) y) (fU : FracR w (.agg #[.bool U1, .slice U2 U3 U4, .bool U5, .slice U6 U7 U8]) u) :
    Calls Try.prog 60 #[.pointer (some ⟨gm, 0, none⟩), .pointer (some ⟨gr, 0, none⟩)] w fun e w' => ∃ g, e = .returned (.slice (some ⟨g, 0, none⟩) 2 2) ∧ w.heap.size ≤ g ∧ Ext w w' ∧ TwoAt w' g (a * y + b * u) (c * y + d * u) := by
  have k1 := mkHid (fun W h1 h2 h3 h4 => pair_f (.agg #[.bool A1, .slice A2 A3 A4, .bool A5, .slice A6 A7 A8]) (.agg #[.bool Y1, .slice Y2 Y3 Y4, .bool Y5, .slice Y6 Y7 Y8]) (.agg #[.bool B1, .slice B2 B3 B4, .bool B5, .slice B6 B7 B8]) (.agg #[.bool U1, .slice U2 U3 U4, .bool U5, .slice U6 U7 U8]) a y b u W na ny nb nu h1 h2 h3 h4)
  have k2 := mkHid (fun W h1 h2 h3 h4 => pair_f (.agg #[.bool C1, .slice C2 C3 C4, .bool C5, .slice C6 C7 C8]) (.agg #[.bool Y1, .slice Y2 Y3 Y4, .bool Y5, .slice Y6 Y7 Y8]) (.agg #[.bool D1, .slice D2 D3 D4, .bool D5, .slice D6 D7 D8]) (.agg #[.bool U1, .slice U2 U3 U4, .bool U5, .slice U6 U7 U8]) c y d u W nc ny nd nu h1 h2 h3 h4)
  replace zM := mkHid zM
  replace zR := mkHid zR
  replace fA := mkHid fA
  replace fB := mkHid fB
  replace fC := mkHid fC
  replace fD := mkHid fD
  replace fY := mkHid fY
  replace fU := mkHid fU
  clear na nb nc nd ny nu
  go_enter Try.func60, Try.ntmps60
  go_wp2_with fail
  have yM_0 : ∀ W, Ext w W → W.cell? ⟨gm, 0, none⟩ = some (.bool A1) := fun W e => by simp [World.cell?, e.blk zM.out]
  have yM_1 : ∀ W, Ext w W → W.cell? ⟨gm, 1, none⟩ = some (.slice A2 A3 A4) := fun W e => by simp [World.cell?, e.blk zM.out]
  have yM_2 : ∀ W, Ext w W → W.cell? ⟨gm, 2, none⟩ = some (.bool A5) := fun W e => by simp [World.cell?, e.blk zM.out]
  have yM_3 : ∀ W, Ext w W → W.cell? ⟨gm, 3, none⟩ = some (.slice A6 A7 A8) := fun W e => by simp [World.cell?, e.blk zM.out]
  have yM_4 : ∀ W, Ext w W → W.cell? ⟨gm, 4, none⟩ = some (.bool B1) := fun W e => by simp [World.cell?, e.blk zM.out]
  have yM_5 : ∀ W, Ext w W → W.cell? ⟨gm, 5, none⟩ = some (.slice B2 B3 B4) := fun W e => by simp [World.cell?, e.blk zM.out]
  have yM_6 : ∀ W, Ext w W → W.cell? ⟨gm, 6, none⟩ = some (.bool B5) := fun W e => by simp [World.cell?, e.blk zM.out]
  have yM_7 : ∀ W, Ext w W → W.cell? ⟨gm, 7, none⟩ = some (.slice B6 B7 B8) := fun W e => by simp [World.cell?, e.blk zM.out]
  have yM_8 : ∀ W, Ext w W → W.cell? ⟨gm, 8, none⟩ = some (.bool C1) := fun W e => by simp [World.cell?, e.blk zM.out]
  have yM_9 : ∀ W, Ext w W → W.cell? ⟨gm, 9, none⟩ = some (.slice C2 C3 C4) := fun W e => by simp [World.cell?, e.blk zM.out]
  have yM_10 : ∀ W, Ext w W → W.cell? ⟨gm, 10, none⟩ = some (.bool C5) := fun W e => by simp [World.cell?, e.blk zM.out]
  have yM_11 : ∀ W, Ext w W → W.cell? ⟨gm, 11, none⟩ = some (.slice C6 C7 C8) := fun W e => by simp [World.cell?, e.blk zM.out]
  have yM_12 : ∀ W, Ext w W → W.cell? ⟨gm, 12, none⟩ = some (.bool D1) := fun W e => by simp [World.cell?, e.blk zM.out]
  have yM_13 : ∀ W, Ext w W → W.cell? ⟨gm, 13, none⟩ = some (.slice D2 D3 D4) := fun W e => by simp [World.cell?, e.blk zM.out]
  have yM_14 : ∀ W, Ext w W → W.cell? ⟨gm, 14, none⟩ = some (.bool D5) := fun W e => by simp [World.cell?, e.blk zM.out]
  have yM_15 : ∀ W, Ext w W → W.cell? ⟨gm, 15, none⟩ = some (.slice D6 D7 D8) := fun W e => by simp [World.cell?, e.blk zM.out]
  have yR_0 : ∀ W, Ext w W → W.cell? ⟨gr, 0, none⟩ = some (.bool Y1) := fun W e => by simp [World.cell?, e.blk zR.out]
  have yR_1 : ∀ W, Ext w W → W.cell? ⟨gr, 1, none⟩ = some (.slice Y2 Y3 Y4) := fun W e => by simp [World.cell?, e.blk zR.out]
  have yR_2 : ∀ W, Ext w W → W.cell? ⟨gr, 2, none⟩ = some (.bool Y5) := fun W e => by simp [World.cell?, e.blk zR.out]
  have yR_3 : ∀ W, Ext w W → W.cell? ⟨gr, 3, none⟩ = some (.slice Y6 Y7 Y8) := fun W e => by simp [World.cell?, e.blk zR.out]
  have yR_4 : ∀ W, Ext w W → W.cell? ⟨gr, 4, none⟩ = some (.bool U1) := fun W e => by simp [World.cell?, e.blk zR.out]
  have yR_5 : ∀ W, Ext w W → W.cell? ⟨gr, 5, none⟩ = some (.slice U2 U3 U4) := fun W e => by simp [World.cell?, e.blk zR.out]
  have yR_6 : ∀ W, Ext w W → W.cell? ⟨gr, 6, none⟩ = some (.bool U5) := fun W e => by simp [World.cell?, e.blk zR.out]
  have yR_7 : ∀ W, Ext w W → W.cell? ⟨gr, 7, none⟩ = some (.slice U6 U7 U8) := fun W e => by simp [World.cell?, e.blk zR.out]
  apply region_ext [.val _, .val _, .val _, .val _, .val _, .val _, .val _, .val _, .pred (fun W v => FracR W v (a * y + b * u)), .val _, .val _, .val _, .val _, .val _, .val _, .val _, .val _, .pred (fun W v => FracR W v (c * y + d * u))] (by kernel_rfl) (stable_vals _ (stable_vals _ (stable_vals _ (stable_vals _ (stable_vals _ (stable_vals _ (stable_vals _ (stable_vals _ (st_fracR _ (stable_vals _ (stable_vals _ (stable_vals _ (stable_vals _ (stable_vals _ (stable_vals _ (stable_vals _ (stable_vals _ (st_fracR _ trivial))))))))))))))))))
  iterate 8 (refine ⟨fun W hW _ => by go_simp; exact ⟨Ext.refl _, rfl⟩, ?_⟩)
  refine ⟨fun W hW _ => ?a8, fun x8 => ?_⟩
  case a8 =>
    go_simp
    refine (k1.out W (fA.out.ext hW) (fY.out.ext hW) (fB.out.ext hW) (fU.out.ext hW)).mono ?_
    rintro e w' ⟨v, rfl, e1, e2⟩
    exact ⟨v, rfl, e1, e2.r⟩
  iterate 8 (refine ⟨fun W hW _ => by go_simp; exact ⟨Ext.refl _, rfl⟩, ?_⟩)
  refine ⟨fun W hW _ => ?a17, fun x17 => fun W hW hF => ?fin⟩
  case a17 =>
    go_simp
    refine (k2.out W (fC.out.ext hW) (fY.out.ext hW) (fD.out.ext hW) (fU.out.ext hW)).mono ?_
    rintro e w' ⟨v, rfl, e1, e2⟩
    exact ⟨v, rfl, e1, e2.r⟩
  case fin =>
    have d17 : FracR W x17 (c * y + d * u) := hF.1 rfl
    have d8 : FracR W x8 (a * y + b * u) := hF.2.1 rfl
    obtain ⟨P1, P2, P3, P4, P5, P6, P7, P8, rfl⟩ := d8.shape
    obtain ⟨Q1, Q2, Q3, Q4, Q5, Q6, Q7, Q8, rfl⟩ := d17.shape
    clear hF
    clear yM_0 yM_1 yM_2 yM_3 yM_4 yM_5 yM_6 yM_7 yM_8 yM_9 yM_10 yM_11 yM_12 yM_13 yM_14 yM_15 yR_0 yR_1 yR_2 yR_3 yR_4 yR_5 yR_6 yR_7
    have hEb := (Ext.refl W).al (.cells #[.bool P1, .slice P2 P3 P4, .bool P5, .slice P6 P7 P8, .bool Q1, .slice Q2 Q3 Q4, .bool Q5, .slice Q6 Q7 Q8] 26)
    have FR : TwoAt (W.alloc (.cells #[.bool P1, .slice P2 P3 P4, .bool P5, .slice P6 P7 P8, .bool Q1, .slice Q2 Q3 Q4, .bool Q5, .slice Q6 Q7 Q8] 26)) W.heap.size (a * y + b * u) (c * y + d * u) := ⟨_, _, _, _, _, _, _, _, _, _, _, _, _, _, _, _, heap_alloc_new _ _, d8.ext hEb, d17.ext hEb⟩
    have FE := hW.trans hEb
    have FS := hW.size
    replace FR := mkHid FR
    replace FE := mkHid FE
    replace FS := mkHid FS
    clear d8 d17 hEb hW k1 k2 zM zR fA fB fC fD fY fU
    go_simp
    go_wp2_with fail
    go_ret
    exact ⟨_, rfl, FS.out, FE.out, FR.out⟩
set_option maxHeartbeats 3200000 in
theorem ans_thr1 (g gm gr : Nat) (e : Int) (w : World) (he : (e == 0) = false) (hk : KAt w g e) :
    Calls Try.prog 59 #[.pointer (some ⟨g, 0, none⟩), .func (.func 60) #[] #[.pointer (some ⟨gm, 0, none⟩), .pointer (some ⟨gr, 0, none⟩)]] w fun x w' => x = .returned (.slice none 0 0) ∧ w' = w := by
  have y0 : w.cell? ⟨g, 0, none⟩ = some (.int .i64 e) := by simp [World.cell?, show w.heap[g]? = some (.cells #[.int .i64 e] 83 (0, 0)) from hk]
  replace hk := mkHid hk
  go_enter Try.func59, Try.ntmps59
  go_wp2_with fail
  go_ret
  exact ⟨rfl, rfl⟩
/-- What answer gives of two fractions. -/
def AnsTwo (g : Nat) (p q : Rat) (w w' : World) (v : Value) : Prop :=
  KC g w w' ∧ ((nf p ≤ 2048 ∧ nf q ≤ 2048 ∧ KAt w' g 0 ∧ ∃ gs, v = .slice (some ⟨gs, 0, none⟩) 2 2 ∧ w.heap.size ≤ gs ∧ TwoAt w' gs p q) ∨ (¬ (nf p ≤ 2048 ∧ nf q ≤ 2048) ∧ KAt w' g 4 ∧ v = .slice none 0 0))
theorem FracR.keep {w : World} {v : Value} {x : Rat} {g T : Nat} {fr : Nat × Nat} {e : Int} (h : FracR w v x) (hg : w.heap[g]? = some (.cells #[.int .i64 e] T fr)) (cs : Array Value) : FracR (w.setRow g cs) v x := by
  obtain ⟨b1, a1, n1, c1, b2, a2, n2, c2, h0, ⟨s1, h1, x1, y1, h2, h3, r1⟩, ⟨s2, h4, x2, y2, h5, h6, r2⟩⟩ := h
  exact ⟨b1, a1, n1, c1, b2, a2, n2, c2, h0, ⟨s1, h1, x1, y1, h2, h3, r1.keep hg cs⟩, ⟨s2, h4, x2, y2, h5, h6, r2.keep hg cs⟩⟩
set_option maxRecDepth 100000 in
set_option maxHeartbeats 6400000 in
theorem ans_thr0 (g gm gr : Nat) (p q : Rat) (w : World) (hk : KAt w g 0) (np : nf p ≤ 268435456) (nq : nf q ≤ 268435456)
    (hf : ∀ W, Ext w W → Calls Try.prog 60 #[.pointer (some ⟨gm, 0, none⟩), .pointer (some ⟨gr, 0, none⟩)] W fun e w' => ∃ g, e = .returned (.slice (some ⟨g, 0, none⟩) 2 2) ∧ W.heap.size ≤ g ∧ Ext W w' ∧ TwoAt w' g p q) :
    Calls Try.prog 59 #[.pointer (some ⟨g, 0, none⟩), .func (.func 60) #[] #[.pointer (some ⟨gm, 0, none⟩), .pointer (some ⟨gr, 0, none⟩)]] w fun x w' => ∃ v, x = .returned v ∧ AnsTwo g p q w w' v := by
  have y0 : w.cell? ⟨g, 0, none⟩ = some (.int .i64 0) := by simp [World.cell?, show w.heap[g]? = some (.cells #[.int .i64 0] 83 (0, 0)) from hk]
  replace hk := mkHid (show w.heap[g]? = some (.cells #[.int .i64 0] 83 (0, 0)) from hk)
  replace hf := mkHid (hf w (Ext.refl w))
  have ka := mkHid (fun W g h => answer_f g 2 [p, q] W (by simp) (fun y hy => by simp at hy; rcases hy with rfl | rfl <;> omega) h)
  rw [show [p, q].length = 2 from rfl] at ka
  have hany : ([p, q].any fun x => decide (2048 < nf x)) = !(decide (nf p ≤ 2048 ∧ nf q ≤ 2048)) := by
    by_cases u1 : nf p ≤ 2048 <;> by_cases u2 : nf q ≤ 2048 <;> simp [u1, u2, Nat.not_lt] <;> omega
  rw [hany] at ka
  clear hany np nq
  go_enter Try.func59, Try.ntmps59
  go_wp2_with fail
  refine hf.out.mono ?_
  rintro x w1 ⟨gs, rfl, hgs, hE1, hT⟩
  clear hf y0
  have lgs : g < w.heap.size := (Array.getElem?_eq_some_iff.1 hk.out).1
  have hT' := hT
  obtain ⟨P1, P2, P3, P4, P5, P6, P7, P8, Q1, Q2, Q3, Q4, Q5, Q6, Q7, Q8, zT, f1, f2⟩ := hT'
  have hl := mkHid (lr_two zT f1 f2)
  replace hk := mkHid (hE1.blk hk.out)
  replace zT := mkHid zT
  replace f1 := mkHid f1
  replace f2 := mkHid f2
  replace hgs := mkHid hgs
  clear hT
  replace hE1 := mkHid hE1
  go_wp2_with fail
  refine (ka.out w1 gs hl.out).mono ?_
  rintro x w2 ⟨rfl, hx⟩
  have hk2 := hx.blk hk.out
  have z2 := hx.blk zT.out
  have f0 := row2_frozen hk2 0
  have y1 : w2.cell? ⟨g, 0, none⟩ = some (.int .i64 0) := by simp [World.cell?, hk2]
  have hX := hE1.out.trans hx
  have g1 := f1.out.ext hx
  have g2 := f2.out.ext hx
  clear hE1 f1 f2 hl hk zT ka
  have hne : gs ≠ g := by have := hgs.out; omega
  by_cases hc : nf p ≤ 2048 ∧ nf q ≤ 2048
  · have hfin := mkHid (show AnsTwo g p q w (w2.setRow g #[.int .i64 0]) (.slice (some ⟨gs, 0, none⟩) 2 2) from
      ⟨(KC.of_ext hX).trans (KC.of_row hk2 _), .inl ⟨hc.1, hc.2, setRow_heap _ _ _ _ _ _ hk2, gs, rfl, hgs.out, _, _, _, _, _, _, _, _, _, _, _, _, _, _, _, _, (setRow_other _ _ _ _ hne).trans z2, g1.keep hk2 _, g2.keep hk2 _⟩⟩)
    have y2 : (w2.setRow g #[.int .i64 0]).cell? ⟨g, 0, none⟩ = some (.int .i64 0) := by
      have := setRow_heap w2 g _ #[.int .i64 0] 83 (0, 0) hk2
      simp [World.cell?, this]
    rw [decide_eq_true hc]
    replace hk2 := mkHid hk2
    replace hc := mkHid hc
    clear hX g1 g2 z2 hx hgs
    go_wp2_with fail
    go_ret
    rw [set1_row hk2.out]
    exact ⟨_, rfl, hfin.out⟩
  · have hfin := mkHid (show AnsTwo g p q w (w2.setRow g #[.int .i64 4]) (.slice none 0 0) from
      ⟨(KC.of_ext hX).trans (KC.of_row hk2 _), .inr ⟨hc, setRow_heap _ _ _ _ _ _ hk2, rfl⟩⟩)
    rw [decide_eq_false hc]
    replace hk2 := mkHid hk2
    replace hc := mkHid hc
    clear hX g1 g2 z2 hx hgs
    go_wp2_with fail
    go_ret
    rw [set1_row hk2.out]
    exact ⟨_, rfl, hfin.out⟩
end Go.Proofs.Ytpmfohhpaoagfaa
namespace Go.Proofs.Ytpmfohhpaoagfaa
open Go Go.RowKit Go.Proofs
theorem set8_all {w : World} {g T : Nat} {fr : Nat × Nat} {x0 x1 x2 x3 x4 x5 x6 x7 u0 u1 u2 u3 u4 u5 u6 u7 : Value} (h : w.heap[g]? = some (.cells #[x0, x1, x2, x3, x4, x5, x6, x7] T fr)) :
    (((((((w.setCell ⟨g, 0, none⟩ u0).setCell ⟨g, 1, none⟩ u1).setCell ⟨g, 2, none⟩ u2).setCell ⟨g, 3, none⟩ u3).setCell ⟨g, 4, none⟩ u4).setCell ⟨g, 5, none⟩ u5).setCell ⟨g, 6, none⟩ u6).setCell ⟨g, 7, none⟩ u7 = w.setRow g #[u0, u1, u2, u3, u4, u5, u6, u7] := by
  have e : ((((((((w.setCell ⟨g, 0, none⟩ u0).setCell ⟨g, 1, none⟩ u1).setCell ⟨g, 2, none⟩ u2).setCell ⟨g, 3, none⟩ u3).setCell ⟨g, 4, none⟩ u4).setCell ⟨g, 5, none⟩ u5).setCell ⟨g, 6, none⟩ u6).setCell ⟨g, 7, none⟩ u7).heap = (w.setRow g #[u0, u1, u2, u3, u4, u5, u6, u7]).heap := by
    refine Array.ext_getElem? fun k => ?_
    unfold World.setCell World.setRow
    simp only [Array.getElem?_modify]
    by_cases hk : g = k
    · subst hk
      simp [h]
    · simp [hk]
  unfold World.setCell World.setRow at *
  simpa using e
theorem anyY_zero (w : World) : AnyY w (.agg #[.bool false, .slice none 0 0, .bool false, .slice none 0 0, .bool false, .slice none 0 0, .bool false, .slice none 0 0]) none none := ⟨_, _, _, _, _, _, _, _, _, _, _, _, _, _, _, _, rfl, any_zero w, any_zero w⟩
/-- What Through answers. -/
def thOk (p q : Rat) : Bool := decide (nf p ≤ 2048) && decide (nf q ≤ 2048)
def thE : Option Rat → Option Rat → Option Rat → Option Rat → Option Rat → Option Rat → Int
  | some a, some b, some c, some d, some y, some u => if a * d - b * c = 1 then (if thOk (a * y + b * u) (c * y + d * u) then 0 else 4) else 1
  | _, _, _, _, _, _ => 1
def thY : Option Rat → Option Rat → Option Rat → Option Rat → Option Rat → Option Rat → Option Rat
  | some a, some b, some c, some d, some y, some u => if a * d - b * c = 1 then (if thOk (a * y + b * u) (c * y + d * u) then some (a * y + b * u) else none) else none
  | _, _, _, _, _, _ => none
def thU : Option Rat → Option Rat → Option Rat → Option Rat → Option Rat → Option Rat → Option Rat
  | some a, some b, some c, some d, some y, some u => if a * d - b * c = 1 then (if thOk (a * y + b * u) (c * y + d * u) then some (c * y + d * u) else none) else none
  | _, _, _, _, _, _ => none
set_option maxRecDepth 100000 in
set_option maxHeartbeats 12800000 in
theorem through_none (v r : Value) (oa ob oc od oy ou : Option Rat) (w : World) (h : AnyM w v oa ob oc od) (hr : AnyY w r oy ou) (hk : okM oa ob oc od = false ∨ okY oy ou = false) :
    Calls Try.prog 25 #[v, r] w fun e w' => ∃ t, e = .returned (.tuple #[t, .int .i64 1]) ∧ Ext w w' ∧ AnyY w' t none none := by
  have hM := h
  have hY := hr
  obtain ⟨A1, A2, A3, A4, A5, A6, A7, A8, B1, B2, B3, B4, B5, B6, B7, B8, C1, C2, C3, C4, C5, C6, C7, C8, D1, D2, D3, D4, D5, D6, D7, D8, rfl, -⟩ := h
  obtain ⟨Y1, Y2, Y3, Y4, Y5, Y6, Y7, Y8, U1, U2, U3, U4, U5, U6, U7, U8, rfl, -⟩ := hr
  replace hM := mkHid hM
  replace hY := mkHid hY
  have hE := mkHid (Ext.refl w)
  by_cases hm : okM oa ob oc od = true
  · have hy2 : okY oy ou = false := hk.resolve_left (by rw [hm]; decide)
    clear hk
    go_enter Try.func25, Try.ntmps25
    obtain ⟨w1, hw1⟩ : ∃ w1, w1 = (((w.alloc (.cells #[.bool A1, .slice A2 A3 A4, .bool A5, .slice A6 A7 A8, .bool B1, .slice B2 B3 B4, .bool B5, .slice B6 B7 B8, .bool C1, .slice C2 C3 C4, .bool C5, .slice C6 C7 C8, .bool D1, .slice D2 D3 D4, .bool D5, .slice D6 D7 D8] 40)).alloc (.cells #[.bool Y1, .slice Y2 Y3 Y4, .bool Y5, .slice Y6 Y7 Y8, .bool U1, .slice U2 U3 U4, .bool U5, .slice U6 U7 U8] 48)).alloc (.cells #[.bool false, .slice none 0 0, .bool false, .slice none 0 0, .bool false, .slice none 0 0, .bool false, .slice none 0 0] 48)).alloc (.cells #[.int .i64 0] 83) := ⟨_, rfl⟩
    have hx : Ext w w1 := by rw [hw1]; exact (((((Ext.refl w).al _).al _).al _).al _)
    have zM : w1.heap[w.heap.size]? = some (.cells #[.bool A1, .slice A2 A3 A4, .bool A5, .slice A6 A7 A8, .bool B1, .slice B2 B3 B4, .bool B5, .slice B6 B7 B8, .bool C1, .slice C2 C3 C4, .bool C5, .slice C6 C7 C8, .bool D1, .slice D2 D3 D4, .bool D5, .slice D6 D7 D8] 40 (0, 0)) := by rw [hw1]; exact (heap_alloc_old _ _ (by simp <;> omega)).trans ((heap_alloc_old _ _ (by simp <;> omega)).trans ((heap_alloc_old _ _ (by simp <;> omega)).trans (heap_at _ _ _ (by simp))))
    have zR : w1.heap[w.heap.size + 1]? = some (.cells #[.bool Y1, .slice Y2 Y3 Y4, .bool Y5, .slice Y6 Y7 Y8, .bool U1, .slice U2 U3 U4, .bool U5, .slice U6 U7 U8] 48 (0, 0)) := by rw [hw1]; exact (heap_alloc_old _ _ (by simp <;> omega)).trans ((heap_alloc_old _ _ (by simp <;> omega)).trans (heap_at _ _ _ (by simp)))
    have zZ : w1.heap[w.heap.size + 1 + 1]? = some (.cells #[.bool false, .slice none 0 0, .bool false, .slice none 0 0, .bool false, .slice none 0 0, .bool false, .slice none 0 0] 48 (0, 0)) := by rw [hw1]; exact (heap_alloc_old _ _ (by simp <;> omega)).trans (heap_at _ _ _ (by simp))
    have zK : w1.heap[w.heap.size + 1 + 1 + 1]? = some (.cells #[.int .i64 0] 83 (0, 0)) := by rw [hw1]; exact heap_at _ _ _ (by simp)
    obtain ⟨g2, hg2⟩ : ∃ g2, g2 = w.heap.size := ⟨_, rfl⟩
    rw [← hg2] at zM zR zZ zK
    go_wp2_with fail
    rw [← hg2, ← hw1]
    have hgw : w.heap.size ≤ g2 := Nat.le_of_eq hg2.symm
    clear hg2 hw1
    replace hM := mkHid (hM.out.ext hx)
    replace hY := mkHid (hY.out.ext hx)
    replace hE := mkHid (hE.out.trans hx)
    clear hx
    replace zM := mkHid zM
    replace zR := mkHid zR
    replace zZ := mkHid zZ
    replace zK := mkHid zK
    have k1 := kmat0 (g2 + 1 + 1 + 1) _ oa ob oc od _ zK.out hM.out
    clear zK
    rw [hm, if_pos rfl] at k1
    replace hm := mkHid hm
    replace k1 := mkHid k1
    refine (k1.out).mono ?_
    rintro x w3 ⟨rfl, hC, hK⟩
    replace hE := mkHid (hC.ext _ hE.out (by omega))
    replace zM := mkHid (hC.blk _ _ (by omega) zM.out)
    replace zR := mkHid (hC.blk _ _ (by omega) zR.out)
    replace zZ := mkHid (hC.blk _ _ (by omega) zZ.out)
    replace hM := mkHid (AnyM.any hC hM.out)
    replace hY := mkHid (AnyY.any hC hY.out)
    clear hC
    clear k1
    have yR_0 : w3.cell? ⟨g2 + 1, 0, none⟩ = some (.bool Y1) := by simp [World.cell?, zR.out]
    have yR_1 : w3.cell? ⟨g2 + 1, 1, none⟩ = some (.slice Y2 Y3 Y4) := by simp [World.cell?, zR.out]
    have yR_2 : w3.cell? ⟨g2 + 1, 2, none⟩ = some (.bool Y5) := by simp [World.cell?, zR.out]
    have yR_3 : w3.cell? ⟨g2 + 1, 3, none⟩ = some (.slice Y6 Y7 Y8) := by simp [World.cell?, zR.out]
    have yR_4 : w3.cell? ⟨g2 + 1, 4, none⟩ = some (.bool U1) := by simp [World.cell?, zR.out]
    have yR_5 : w3.cell? ⟨g2 + 1, 5, none⟩ = some (.slice U2 U3 U4) := by simp [World.cell?, zR.out]
    have yR_6 : w3.cell? ⟨g2 + 1, 6, none⟩ = some (.bool U5) := by simp [World.cell?, zR.out]
    have yR_7 : w3.cell? ⟨g2 + 1, 7, none⟩ = some (.slice U6 U7 U8) := by simp [World.cell?, zR.out]
    have k2 := kray0 (g2 + 1 + 1 + 1) _ oy ou _ hK hY.out
    rw [hy2, if_neg (by decide)] at k2
    replace k2 := mkHid k2
    clear hK
    go_wp2_with fail
    refine (k2.out).mono ?_
    rintro x w4 ⟨rfl, hC, hK⟩
    clear yR_0 yR_1 yR_2 yR_3 yR_4 yR_5 yR_6 yR_7
    replace hE := mkHid (hC.ext _ hE.out (by omega))
    replace zM := mkHid (hC.blk _ _ (by omega) zM.out)
    replace zR := mkHid (hC.blk _ _ (by omega) zR.out)
    replace zZ := mkHid (hC.blk _ _ (by omega) zZ.out)
    replace hM := mkHid (AnyM.any hC hM.out)
    replace hY := mkHid (AnyY.any hC hY.out)
    clear hC
    clear k2
    replace hK := mkHid hK
    go_wp2_with fail
    refine (ans_thr1 (g2 + 1 + 1 + 1) (g2) (g2 + 1) 1 _ rfl hK.out).mono ?_
    rintro x w5 ⟨rfl, rfl⟩
    go_wp2_with fail
    have hz0 := zZ.out
    have q0 : w5.cell? ⟨g2 + 1 + 1, 0, none⟩ = some (.bool false) := by simp [World.cell?, hz0]
    have f0 := row2_frozen hz0 0
    have q1 : w5.cell? ⟨g2 + 1 + 1, 1, none⟩ = some (.slice none 0 0) := by simp [World.cell?, hz0]
    have f1 := row2_frozen hz0 1
    have q2 : w5.cell? ⟨g2 + 1 + 1, 2, none⟩ = some (.bool false) := by simp [World.cell?, hz0]
    have f2 := row2_frozen hz0 2
    have q3 : w5.cell? ⟨g2 + 1 + 1, 3, none⟩ = some (.slice none 0 0) := by simp [World.cell?, hz0]
    have f3 := row2_frozen hz0 3
    have q4 : w5.cell? ⟨g2 + 1 + 1, 4, none⟩ = some (.bool false) := by simp [World.cell?, hz0]
    have f4 := row2_frozen hz0 4
    have q5 : w5.cell? ⟨g2 + 1 + 1, 5, none⟩ = some (.slice none 0 0) := by simp [World.cell?, hz0]
    have f5 := row2_frozen hz0 5
    have q6 : w5.cell? ⟨g2 + 1 + 1, 6, none⟩ = some (.bool false) := by simp [World.cell?, hz0]
    have f6 := row2_frozen hz0 6
    have q7 : w5.cell? ⟨g2 + 1 + 1, 7, none⟩ = some (.slice none 0 0) := by simp [World.cell?, hz0]
    have f7 := row2_frozen hz0 7
    have k0 : w5.cell? ⟨g2 + 1 + 1 + 1, 0, none⟩ = some (.int .i64 1) := by simp [World.cell?, show w5.heap[g2 + 1 + 1 + 1]? = some (.cells #[.int .i64 1] 83 (0, 0)) from hK.out]
    have hne : g2 + 1 + 1 + 1 ≠ g2 + 1 + 1 := by omega
    have hne2 : g2 + 1 + 1 ≠ g2 + 1 + 1 + 1 := by omega
    replace hz0 := mkHid hz0
    have FE := mkHid (hE.out.row (show w.heap.size ≤ g2 + 1 + 1 by omega) #[.bool false, .slice none 0 0, .bool false, .slice none 0 0, .bool false, .slice none 0 0, .bool false, .slice none 0 0]).dr
    have FR := mkHid (anyY_zero (w5.setRow (g2 + 1 + 1) #[.bool false, .slice none 0 0, .bool false, .slice none 0 0, .bool false, .slice none 0 0, .bool false, .slice none 0 0]).drew)
    go_region
    rw [set8_all hz0.out]
    go_wp2_with fail
    exact bodyPost_ret (results_row_tmp rfl _ _ (g2 + 1 + 1) 48 #[.bool false, .slice none 0 0, .bool false, .slice none 0 0, .bool false, .slice none 0 0, .bool false, .slice none 0 0] _ _ rfl rfl (setRow_heap _ _ _ _ _ _ hz0.out) Try.underlying48 rfl (by kernel_rfl)) rfl ⟨_, rfl, FE.out, FR.out⟩
  · clear hk
    go_enter Try.func25, Try.ntmps25
    obtain ⟨w6, hw6⟩ : ∃ w6, w6 = (((w.alloc (.cells #[.bool A1, .slice A2 A3 A4, .bool A5, .slice A6 A7 A8, .bool B1, .slice B2 B3 B4, .bool B5, .slice B6 B7 B8, .bool C1, .slice C2 C3 C4, .bool C5, .slice C6 C7 C8, .bool D1, .slice D2 D3 D4, .bool D5, .slice D6 D7 D8] 40)).alloc (.cells #[.bool Y1, .slice Y2 Y3 Y4, .bool Y5, .slice Y6 Y7 Y8, .bool U1, .slice U2 U3 U4, .bool U5, .slice U6 U7 U8] 48)).alloc (.cells #[.bool false, .slice none 0 0, .bool false, .slice none 0 0, .bool false, .slice none 0 0, .bool false, .slice none 0 0] 48)).alloc (.cells #[.int .i64 0] 83) := ⟨_, rfl⟩
    have hx : Ext w w6 := by rw [hw6]; exact (((((Ext.refl w).al _).al _).al _).al _)
    have zM : w6.heap[w.heap.size]? = some (.cells #[.bool A1, .slice A2 A3 A4, .bool A5, .slice A6 A7 A8, .bool B1, .slice B2 B3 B4, .bool B5, .slice B6 B7 B8, .bool C1, .slice C2 C3 C4, .bool C5, .slice C6 C7 C8, .bool D1, .slice D2 D3 D4, .bool D5, .slice D6 D7 D8] 40 (0, 0)) := by rw [hw6]; exact (heap_alloc_old _ _ (by simp <;> omega)).trans ((heap_alloc_old _ _ (by simp <;> omega)).trans ((heap_alloc_old _ _ (by simp <;> omega)).trans (heap_at _ _ _ (by simp))))
    have zR : w6.heap[w.heap.size + 1]? = some (.cells #[.bool Y1, .slice Y2 Y3 Y4, .bool Y5, .slice Y6 Y7 Y8, .bool U1, .slice U2 U3 U4, .bool U5, .slice U6 U7 U8] 48 (0, 0)) := by rw [hw6]; exact (heap_alloc_old _ _ (by simp <;> omega)).trans ((heap_alloc_old _ _ (by simp <;> omega)).trans (heap_at _ _ _ (by simp)))
    have zZ : w6.heap[w.heap.size + 1 + 1]? = some (.cells #[.bool false, .slice none 0 0, .bool false, .slice none 0 0, .bool false, .slice none 0 0, .bool false, .slice none 0 0] 48 (0, 0)) := by rw [hw6]; exact (heap_alloc_old _ _ (by simp <;> omega)).trans (heap_at _ _ _ (by simp))
    have zK : w6.heap[w.heap.size + 1 + 1 + 1]? = some (.cells #[.int .i64 0] 83 (0, 0)) := by rw [hw6]; exact heap_at _ _ _ (by simp)
    obtain ⟨g7, hg7⟩ : ∃ g7, g7 = w.heap.size := ⟨_, rfl⟩
    rw [← hg7] at zM zR zZ zK
    go_wp2_with fail
    rw [← hg7, ← hw6]
    have hgw : w.heap.size ≤ g7 := Nat.le_of_eq hg7.symm
    clear hg7 hw6
    replace hM := mkHid (hM.out.ext hx)
    replace hY := mkHid (hY.out.ext hx)
    replace hE := mkHid (hE.out.trans hx)
    clear hx
    replace zM := mkHid zM
    replace zR := mkHid zR
    replace zZ := mkHid zZ
    replace zK := mkHid zK
    have k1 := kmat0 (g7 + 1 + 1 + 1) _ oa ob oc od _ zK.out hM.out
    clear zK
    rw [if_neg hm] at k1
    replace hm := mkHid hm
    replace k1 := mkHid k1
    refine (k1.out).mono ?_
    rintro x w8 ⟨rfl, hC, hK⟩
    replace hE := mkHid (hC.ext _ hE.out (by omega))
    replace zM := mkHid (hC.blk _ _ (by omega) zM.out)
    replace zR := mkHid (hC.blk _ _ (by omega) zR.out)
    replace zZ := mkHid (hC.blk _ _ (by omega) zZ.out)
    replace hM := mkHid (AnyM.any hC hM.out)
    replace hY := mkHid (AnyY.any hC hY.out)
    clear hC
    clear k1
    have yR_0 : w8.cell? ⟨g7 + 1, 0, none⟩ = some (.bool Y1) := by simp [World.cell?, zR.out]
    have yR_1 : w8.cell? ⟨g7 + 1, 1, none⟩ = some (.slice Y2 Y3 Y4) := by simp [World.cell?, zR.out]
    have yR_2 : w8.cell? ⟨g7 + 1, 2, none⟩ = some (.bool Y5) := by simp [World.cell?, zR.out]
    have yR_3 : w8.cell? ⟨g7 + 1, 3, none⟩ = some (.slice Y6 Y7 Y8) := by simp [World.cell?, zR.out]
    have yR_4 : w8.cell? ⟨g7 + 1, 4, none⟩ = some (.bool U1) := by simp [World.cell?, zR.out]
    have yR_5 : w8.cell? ⟨g7 + 1, 5, none⟩ = some (.slice U2 U3 U4) := by simp [World.cell?, zR.out]
    have yR_6 : w8.cell? ⟨g7 + 1, 6, none⟩ = some (.bool U5) := by simp [World.cell?, zR.out]
    have yR_7 : w8.cell? ⟨g7 + 1, 7, none⟩ = some (.slice U6 U7 U8) := by simp [World.cell?, zR.out]
    have k2 := kray1 (g7 + 1 + 1 + 1) 1 _ oy ou _ rfl hK hY.out
    replace k2 := mkHid k2
    clear hK
    go_wp2_with fail
    refine (k2.out).mono ?_
    rintro x w9 ⟨rfl, hC, hK⟩
    clear yR_0 yR_1 yR_2 yR_3 yR_4 yR_5 yR_6 yR_7
    replace hE := mkHid (hC.ext _ hE.out (by omega))
    replace zM := mkHid (hC.blk _ _ (by omega) zM.out)
    replace zR := mkHid (hC.blk _ _ (by omega) zR.out)
    replace zZ := mkHid (hC.blk _ _ (by omega) zZ.out)
    replace hM := mkHid (AnyM.any hC hM.out)
    replace hY := mkHid (AnyY.any hC hY.out)
    clear hC
    clear k2
    replace hK := mkHid hK
    go_wp2_with fail
    refine (ans_thr1 (g7 + 1 + 1 + 1) (g7) (g7 + 1) 1 _ rfl hK.out).mono ?_
    rintro x w10 ⟨rfl, rfl⟩
    go_wp2_with fail
    have hz0 := zZ.out
    have q0 : w10.cell? ⟨g7 + 1 + 1, 0, none⟩ = some (.bool false) := by simp [World.cell?, hz0]
    have f0 := row2_frozen hz0 0
    have q1 : w10.cell? ⟨g7 + 1 + 1, 1, none⟩ = some (.slice none 0 0) := by simp [World.cell?, hz0]
    have f1 := row2_frozen hz0 1
    have q2 : w10.cell? ⟨g7 + 1 + 1, 2, none⟩ = some (.bool false) := by simp [World.cell?, hz0]
    have f2 := row2_frozen hz0 2
    have q3 : w10.cell? ⟨g7 + 1 + 1, 3, none⟩ = some (.slice none 0 0) := by simp [World.cell?, hz0]
    have f3 := row2_frozen hz0 3
    have q4 : w10.cell? ⟨g7 + 1 + 1, 4, none⟩ = some (.bool false) := by simp [World.cell?, hz0]
    have f4 := row2_frozen hz0 4
    have q5 : w10.cell? ⟨g7 + 1 + 1, 5, none⟩ = some (.slice none 0 0) := by simp [World.cell?, hz0]
    have f5 := row2_frozen hz0 5
    have q6 : w10.cell? ⟨g7 + 1 + 1, 6, none⟩ = some (.bool false) := by simp [World.cell?, hz0]
    have f6 := row2_frozen hz0 6
    have q7 : w10.cell? ⟨g7 + 1 + 1, 7, none⟩ = some (.slice none 0 0) := by simp [World.cell?, hz0]
    have f7 := row2_frozen hz0 7
    have k0 : w10.cell? ⟨g7 + 1 + 1 + 1, 0, none⟩ = some (.int .i64 1) := by simp [World.cell?, show w10.heap[g7 + 1 + 1 + 1]? = some (.cells #[.int .i64 1] 83 (0, 0)) from hK.out]
    have hne : g7 + 1 + 1 + 1 ≠ g7 + 1 + 1 := by omega
    have hne2 : g7 + 1 + 1 ≠ g7 + 1 + 1 + 1 := by omega
    replace hz0 := mkHid hz0
    have FE := mkHid (hE.out.row (show w.heap.size ≤ g7 + 1 + 1 by omega) #[.bool false, .slice none 0 0, .bool false, .slice none 0 0, .bool false, .slice none 0 0, .bool false, .slice none 0 0]).dr
    have FR := mkHid (anyY_zero (w10.setRow (g7 + 1 + 1) #[.bool false, .slice none 0 0, .bool false, .slice none 0 0, .bool false, .slice none 0 0, .bool false, .slice none 0 0]).drew)
    go_region
    rw [set8_all hz0.out]
    go_wp2_with fail
    exact bodyPost_ret (results_row_tmp rfl _ _ (g7 + 1 + 1) 48 #[.bool false, .slice none 0 0, .bool false, .slice none 0 0, .bool false, .slice none 0 0, .bool false, .slice none 0 0] _ _ rfl rfl (setRow_heap _ _ _ _ _ _ hz0.out) Try.underlying48 rfl (by kernel_rfl)) rfl ⟨_, rfl, FE.out, FR.out⟩
set_option maxRecDepth 100000 in
set_option maxHeartbeats 12800000 in
theorem through_fine (v r : Value) (a b c d y u : Rat) (w : World) (h : AnyM w v (some a) (some b) (some c) (some d)) (hr : AnyY w r (some y) (some u)) (hk : okM (some a) (some b) (some c) (some d) = true) :
    Calls Try.prog 25 #[v, r] w fun e w' => ∃ t, e = .returned (.tuple #[t, .int .i64 (thE (some a) (some b) (some c) (some d) (some y) (some u))]) ∧ Ext w w' ∧ AnyY w' t (thY (some a) (some b) (some c) (some d) (some y) (some u)) (thU (some a) (some b) (some c) (some d) (some y) (some u)) := by
  have n5 := hr
  have hM := h
  have hY := hr
  obtain ⟨A1, A2, A3, A4, A5, A6, A7, A8, B1, B2, B3, B4, B5, B6, B7, B8, C1, C2, C3, C4, C5, C6, C7, C8, D1, D2, D3, D4, D5, D6, D7, D8, rfl, -⟩ := h
  obtain ⟨Y1, Y2, Y3, Y4, Y5, Y6, Y7, Y8, U1, U2, U3, U4, U5, U6, U7, U8, rfl, -⟩ := hr
  replace hM := mkHid hM
  replace hY := mkHid hY
  have hE := mkHid (Ext.refl w)
  obtain ⟨n1, n2, n3, n4⟩ := hM.out.fracs.2
  obtain ⟨_, _, _, _, _, _, _, _, _, _, _, _, _, _, _, _, hh, n5, n6⟩ := n5
  replace n5 := n5.frac.2
  replace n6 := n6.frac.2
  clear hh
  have hdet : a * d - b * c = 1 := by simpa [okM] using hk
  have e1 : thE (some a) (some b) (some c) (some d) (some y) (some u) = if thOk (a * y + b * u) (c * y + d * u) then 0 else 4 := by
    show (if a * d - b * c = 1 then _ else (1 : Int)) = _
    rw [if_pos hdet]
  have e2 : thY (some a) (some b) (some c) (some d) (some y) (some u) = if thOk (a * y + b * u) (c * y + d * u) then some (a * y + b * u) else none := by
    show (if a * d - b * c = 1 then _ else (none : Option Rat)) = _
    rw [if_pos hdet]
  have e3 : thU (some a) (some b) (some c) (some d) (some y) (some u) = if thOk (a * y + b * u) (c * y + d * u) then some (c * y + d * u) else none := by
    show (if a * d - b * c = 1 then _ else (none : Option Rat)) = _
    rw [if_pos hdet]
  obtain ⟨RE, hRE⟩ : ∃ R, R = thE (some a) (some b) (some c) (some d) (some y) (some u) := ⟨_, rfl⟩
  obtain ⟨RY, hRY⟩ : ∃ R, R = thY (some a) (some b) (some c) (some d) (some y) (some u) := ⟨_, rfl⟩
  obtain ⟨RU, hRU⟩ : ∃ R, R = thU (some a) (some b) (some c) (some d) (some y) (some u) := ⟨_, rfl⟩
  rw [← hRE, ← hRY, ← hRU]
  rw [e1] at hRE
  rw [e2] at hRY
  rw [e3] at hRU
  clear e1 e2 e3 hdet
  have np : nf (a * y + b * u) ≤ 268435456 := by
    have := nf_add_le (a * y) (b * u)
    have := nf_mul_le a y
    have := nf_mul_le b u
    omega
  have nq : nf (c * y + d * u) ≤ 268435456 := by
    have := nf_add_le (c * y) (d * u)
    have := nf_mul_le c y
    have := nf_mul_le d u
    omega
  go_enter Try.func25, Try.ntmps25
  obtain ⟨w1, hw1⟩ : ∃ w1, w1 = (((w.alloc (.cells #[.bool A1, .slice A2 A3 A4, .bool A5, .slice A6 A7 A8, .bool B1, .slice B2 B3 B4, .bool B5, .slice B6 B7 B8, .bool C1, .slice C2 C3 C4, .bool C5, .slice C6 C7 C8, .bool D1, .slice D2 D3 D4, .bool D5, .slice D6 D7 D8] 40)).alloc (.cells #[.bool Y1, .slice Y2 Y3 Y4, .bool Y5, .slice Y6 Y7 Y8, .bool U1, .slice U2 U3 U4, .bool U5, .slice U6 U7 U8] 48)).alloc (.cells #[.bool false, .slice none 0 0, .bool false, .slice none 0 0, .bool false, .slice none 0 0, .bool false, .slice none 0 0] 48)).alloc (.cells #[.int .i64 0] 83) := ⟨_, rfl⟩
  have hx : Ext w w1 := by rw [hw1]; exact (((((Ext.refl w).al _).al _).al _).al _)
  have zM : w1.heap[w.heap.size]? = some (.cells #[.bool A1, .slice A2 A3 A4, .bool A5, .slice A6 A7 A8, .bool B1, .slice B2 B3 B4, .bool B5, .slice B6 B7 B8, .bool C1, .slice C2 C3 C4, .bool C5, .slice C6 C7 C8, .bool D1, .slice D2 D3 D4, .bool D5, .slice D6 D7 D8] 40 (0, 0)) := by rw [hw1]; exact (heap_alloc_old _ _ (by simp <;> omega)).trans ((heap_alloc_old _ _ (by simp <;> omega)).trans ((heap_alloc_old _ _ (by simp <;> omega)).trans (heap_at _ _ _ (by simp))))
  have zR : w1.heap[w.heap.size + 1]? = some (.cells #[.bool Y1, .slice Y2 Y3 Y4, .bool Y5, .slice Y6 Y7 Y8, .bool U1, .slice U2 U3 U4, .bool U5, .slice U6 U7 U8] 48 (0, 0)) := by rw [hw1]; exact (heap_alloc_old _ _ (by simp <;> omega)).trans ((heap_alloc_old _ _ (by simp <;> omega)).trans (heap_at _ _ _ (by simp)))
  have zZ : w1.heap[w.heap.size + 1 + 1]? = some (.cells #[.bool false, .slice none 0 0, .bool false, .slice none 0 0, .bool false, .slice none 0 0, .bool false, .slice none 0 0] 48 (0, 0)) := by rw [hw1]; exact (heap_alloc_old _ _ (by simp <;> omega)).trans (heap_at _ _ _ (by simp))
  have zK : w1.heap[w.heap.size + 1 + 1 + 1]? = some (.cells #[.int .i64 0] 83 (0, 0)) := by rw [hw1]; exact heap_at _ _ _ (by simp)
  obtain ⟨g2, hg2⟩ : ∃ g2, g2 = w.heap.size := ⟨_, rfl⟩
  rw [← hg2] at zM zR zZ zK
  go_wp2_with fail
  rw [← hg2, ← hw1]
  have hgw : w.heap.size ≤ g2 := Nat.le_of_eq hg2.symm
  clear hg2 hw1
  replace hM := mkHid (hM.out.ext hx)
  replace hY := mkHid (hY.out.ext hx)
  replace hE := mkHid (hE.out.trans hx)
  clear hx
  replace zM := mkHid zM
  replace zR := mkHid zR
  replace zZ := mkHid zZ
  replace zK := mkHid zK
  have k1 := kmat0 (g2 + 1 + 1 + 1) _ _ _ _ _ _ zK.out hM.out
  clear zK
  rw [hk, if_pos rfl] at k1
  replace hk := mkHid hk
  replace k1 := mkHid k1
  refine (k1.out).mono ?_
  rintro x w3 ⟨rfl, hC, hK⟩
  replace hE := mkHid (hC.ext _ hE.out (by omega))
  replace zM := mkHid (hC.blk _ _ (by omega) zM.out)
  replace zR := mkHid (hC.blk _ _ (by omega) zR.out)
  replace zZ := mkHid (hC.blk _ _ (by omega) zZ.out)
  replace hM := mkHid (AnyM.any hC hM.out)
  replace hY := mkHid (AnyY.any hC hY.out)
  clear hC
  clear k1
  have yR_0 : w3.cell? ⟨g2 + 1, 0, none⟩ = some (.bool Y1) := by simp [World.cell?, zR.out]
  have yR_1 : w3.cell? ⟨g2 + 1, 1, none⟩ = some (.slice Y2 Y3 Y4) := by simp [World.cell?, zR.out]
  have yR_2 : w3.cell? ⟨g2 + 1, 2, none⟩ = some (.bool Y5) := by simp [World.cell?, zR.out]
  have yR_3 : w3.cell? ⟨g2 + 1, 3, none⟩ = some (.slice Y6 Y7 Y8) := by simp [World.cell?, zR.out]
  have yR_4 : w3.cell? ⟨g2 + 1, 4, none⟩ = some (.bool U1) := by simp [World.cell?, zR.out]
  have yR_5 : w3.cell? ⟨g2 + 1, 5, none⟩ = some (.slice U2 U3 U4) := by simp [World.cell?, zR.out]
  have yR_6 : w3.cell? ⟨g2 + 1, 6, none⟩ = some (.bool U5) := by simp [World.cell?, zR.out]
  have yR_7 : w3.cell? ⟨g2 + 1, 7, none⟩ = some (.slice U6 U7 U8) := by simp [World.cell?, zR.out]
  have k2 := kray0 (g2 + 1 + 1 + 1) _ _ _ _ hK hY.out
  rw [show okY (some y) (some u) = true from rfl, if_pos rfl] at k2
  replace k2 := mkHid k2
  clear hK
  go_wp2_with fail
  refine (k2.out).mono ?_
  rintro x w4 ⟨rfl, hC, hK⟩
  clear yR_0 yR_1 yR_2 yR_3 yR_4 yR_5 yR_6 yR_7
  replace hE := mkHid (hC.ext _ hE.out (by omega))
  replace zM := mkHid (hC.blk _ _ (by omega) zM.out)
  replace zR := mkHid (hC.blk _ _ (by omega) zR.out)
  replace zZ := mkHid (hC.blk _ _ (by omega) zZ.out)
  replace hM := mkHid (AnyM.any hC hM.out)
  replace hY := mkHid (AnyY.any hC hY.out)
  clear hC
  clear k2
  obtain ⟨x1, x2, x3, x4, x5, x6, x7, x8, x9, x10, x11, x12, x13, x14, x15, x16, x17, x18, x19, x20, x21, x22, x23, x24, x25, x26, x27, x28, x29, x30, x31, x32, hh, fA, fB, fC, fD⟩ := hM.out
  simp only [Value.agg.injEq, Array.mk.injEq, List.cons.injEq, Value.bool.injEq, Value.slice.injEq, and_true, and_assoc] at hh
  obtain ⟨rfl, rfl, rfl, rfl, rfl, rfl, rfl, rfl, rfl, rfl, rfl, rfl, rfl, rfl, rfl, rfl, rfl, rfl, rfl, rfl, rfl, rfl, rfl, rfl, rfl, rfl, rfl, rfl, rfl, rfl, rfl, rfl⟩ := hh
  obtain ⟨x1, x2, x3, x4, x5, x6, x7, x8, x9, x10, x11, x12, x13, x14, x15, x16, hh, fY, fU⟩ := hY.out
  simp only [Value.agg.injEq, Array.mk.injEq, List.cons.injEq, Value.bool.injEq, Value.slice.injEq, and_true, and_assoc] at hh
  obtain ⟨rfl, rfl, rfl, rfl, rfl, rfl, rfl, rfl, rfl, rfl, rfl, rfl, rfl, rfl, rfl, rfl⟩ := hh
  replace fA := fA.frac.1
  replace fB := fB.frac.1
  replace fC := fC.frac.1
  replace fD := fD.frac.1
  replace fY := fY.frac.1
  replace fU := fU.frac.1
  have ka := ans_thr0 (g2 + 1 + 1 + 1) (g2) (g2 + 1) (a * y + b * u) (c * y + d * u) w4 hK np nq (fun W e => thr1_c (g2) (g2 + 1) _ _ _ _ _ _ _ _ _ _ _ _ _ _ _ _ _ _ _ _ _ _ _ _ _ _ _ _ _ _ _ _ _ _ _ _ _ _ _ _ _ _ _ _ _ _ _ _ a b c d y u W (by omega) (by omega) (by omega) (by omega) (by omega) (by omega) (e.blk zM.out) (e.blk zR.out) (fA.ext e) (fB.ext e) (fC.ext e) (fD.ext e) (fY.ext e) (fU.ext e))
  replace ka := mkHid ka
  clear fA fB fC fD fY fU n1 n2 n3 n4 n5 n6 np nq hK
  clear zM zR hM hY
  generalize a * y + b * u = P at *
  generalize c * y + d * u = Q at *
  replace hRE := mkHid hRE
  replace hRY := mkHid hRY
  replace hRU := mkHid hRU
  go_wp2_with fail
  refine ka.out.mono ?_
  rintro x w5 ⟨va, rfl, hC, hA⟩
  clear ka
  replace hE := mkHid (hC.ext _ hE.out (by omega))
  replace zZ := mkHid (hC.blk _ _ (by omega) zZ.out)
  clear hC
  rcases hA with ⟨np, nq, hK, gs, rfl, -, hT⟩ | ⟨hn, hK, rfl⟩
  · have hok : thOk P Q = true := by unfold thOk; simp [np, nq]
    obtain rfl : RE = 0 := by rw [hRE.out, hok, if_pos rfl]
    obtain rfl : RY = some P := by rw [hRY.out, hok, if_pos rfl]
    obtain rfl : RU = some Q := by rw [hRU.out, hok, if_pos rfl]
    clear hRE hRY hRU
    clear hok hK
    obtain ⟨P1, P2, P3, P4, P5, P6, P7, P8, Q1, Q2, Q3, Q4, Q5, Q6, Q7, Q8, zT, f1, f2⟩ := hT
    go_wp2_with fail
    have t0 : ∀ W, Ext w5 W → W.cell? ⟨gs, 0, none⟩ = some (.bool P1) := fun W e => by simp [World.cell?, e.blk zT]
    have t1 : ∀ W, Ext w5 W → W.cell? ⟨gs, 1, none⟩ = some (.slice P2 P3 P4) := fun W e => by simp [World.cell?, e.blk zT]
    have t2 : ∀ W, Ext w5 W → W.cell? ⟨gs, 2, none⟩ = some (.bool P5) := fun W e => by simp [World.cell?, e.blk zT]
    have t3 : ∀ W, Ext w5 W → W.cell? ⟨gs, 3, none⟩ = some (.slice P6 P7 P8) := fun W e => by simp [World.cell?, e.blk zT]
    have t4 : ∀ W, Ext w5 W → W.cell? ⟨gs, 4, none⟩ = some (.bool Q1) := fun W e => by simp [World.cell?, e.blk zT]
    have t5 : ∀ W, Ext w5 W → W.cell? ⟨gs, 5, none⟩ = some (.slice Q2 Q3 Q4) := fun W e => by simp [World.cell?, e.blk zT]
    have t6 : ∀ W, Ext w5 W → W.cell? ⟨gs, 6, none⟩ = some (.bool Q5) := fun W e => by simp [World.cell?, e.blk zT]
    have t7 : ∀ W, Ext w5 W → W.cell? ⟨gs, 7, none⟩ = some (.slice Q6 Q7 Q8) := fun W e => by simp [World.cell?, e.blk zT]
    replace f1 := mkHid f1
    replace f2 := mkHid f2
    clear zT
    apply region_ext [.val _, .val _, .val _, .val _, .val _, .val _, .val _] (by kernel_rfl) (stable_vals _ (stable_vals _ (stable_vals _ (stable_vals _ (stable_vals _ (stable_vals _ (stable_vals _ trivial)))))))
    iterate 7 (refine ⟨fun W hW _ => by go_simp; exact ⟨Ext.refl _, rfl⟩, ?_⟩)
    intro W hW _
    have zw := hW.blk zZ.out
    have FE := (hE.out.trans hW).row (show w.heap.size ≤ g2 + 1 + 1 by omega) #[.bool P1, .slice P2 P3 P4, .bool P5, .slice P6 P7 P8, .bool Q1, .slice Q2 Q3 Q4, .bool Q5, .slice Q6 Q7 Q8]
    have ha1 := ((f1.out.ext hW).flat zw (by simp [flatV]) #[.bool P1, .slice P2 P3 P4, .bool P5, .slice P6 P7 P8, .bool Q1, .slice Q2 Q3 Q4, .bool Q5, .slice Q6 Q7 Q8]).any (Nat.le_trans np (by decide))
    have ha2 := ((f2.out.ext hW).flat zw (by simp [flatV]) #[.bool P1, .slice P2 P3 P4, .bool P5, .slice P6 P7 P8, .bool Q1, .slice Q2 Q3 Q4, .bool Q5, .slice Q6 Q7 Q8]).any (Nat.le_trans nq (by decide))
    rw [if_pos np] at ha1
    rw [if_pos nq] at ha2
    have FR : AnyY (W.setRow (g2 + 1 + 1) #[.bool P1, .slice P2 P3 P4, .bool P5, .slice P6 P7 P8, .bool Q1, .slice Q2 Q3 Q4, .bool Q5, .slice Q6 Q7 Q8]) (.agg #[.bool P1, .slice P2 P3 P4, .bool P5, .slice P6 P7 P8, .bool Q1, .slice Q2 Q3 Q4, .bool Q5, .slice Q6 Q7 Q8]) (some P) (some Q) := ⟨_, _, _, _, _, _, _, _, _, _, _, _, _, _, _, _, rfl, ha1, ha2⟩
    replace zw := mkHid zw
    replace FE := mkHid FE
    replace FR := mkHid FR
    clear ha1 ha2 f1 f2 hW t0 t1 t2 t3 t4 t5 t6 t7
    go_simp
    go_wp2_with (refine wpList_store_row rfl 48 (.tmp 4) (.tmp 33) rfl (g2 + 1 + 1) #[.bool P1, .slice P2 P3 P4, .bool P5, .slice P6 P7 P8, .bool Q1, .slice Q2 Q3 Q4, .bool Q5, .slice Q6 Q7 Q8] rfl rfl 48 _ zw.out (by kernel_rfl) rfl (by kernel_rfl) ?_)
    exact bodyPost_ret (results_row_tmp rfl _ _ (g2 + 1 + 1) 48 #[.bool P1, .slice P2 P3 P4, .bool P5, .slice P6 P7 P8, .bool Q1, .slice Q2 Q3 Q4, .bool Q5, .slice Q6 Q7 Q8] _ _ rfl rfl (setRow_heap _ _ _ _ _ _ zw.out) Try.underlying48 rfl (by kernel_rfl)) rfl ⟨_, rfl, FE.out, FR.out⟩
  · have hok : thOk P Q = false := by unfold thOk; by_cases u1 : nf P ≤ 2048 <;> by_cases u2 : nf Q ≤ 2048 <;> simp [u1, u2]; exact absurd ⟨u1, u2⟩ hn
    obtain rfl : RE = 4 := by rw [hRE.out, hok, if_neg (by decide)]
    obtain rfl : RY = none := by rw [hRY.out, hok, if_neg (by decide)]
    obtain rfl : RU = none := by rw [hRU.out, hok, if_neg (by decide)]
    clear hRE hRY hRU
    clear hok
    replace hn := mkHid hn
    replace hK := mkHid hK
    go_wp2_with fail
    have hz0 := zZ.out
    have q0 : w5.cell? ⟨g2 + 1 + 1, 0, none⟩ = some (.bool false) := by simp [World.cell?, hz0]
    have f0 := row2_frozen hz0 0
    have q1 : w5.cell? ⟨g2 + 1 + 1, 1, none⟩ = some (.slice none 0 0) := by simp [World.cell?, hz0]
    have f1 := row2_frozen hz0 1
    have q2 : w5.cell? ⟨g2 + 1 + 1, 2, none⟩ = some (.bool false) := by simp [World.cell?, hz0]
    have f2 := row2_frozen hz0 2
    have q3 : w5.cell? ⟨g2 + 1 + 1, 3, none⟩ = some (.slice none 0 0) := by simp [World.cell?, hz0]
    have f3 := row2_frozen hz0 3
    have q4 : w5.cell? ⟨g2 + 1 + 1, 4, none⟩ = some (.bool false) := by simp [World.cell?, hz0]
    have f4 := row2_frozen hz0 4
    have q5 : w5.cell? ⟨g2 + 1 + 1, 5, none⟩ = some (.slice none 0 0) := by simp [World.cell?, hz0]
    have f5 := row2_frozen hz0 5
    have q6 : w5.cell? ⟨g2 + 1 + 1, 6, none⟩ = some (.bool false) := by simp [World.cell?, hz0]
    have f6 := row2_frozen hz0 6
    have q7 : w5.cell? ⟨g2 + 1 + 1, 7, none⟩ = some (.slice none 0 0) := by simp [World.cell?, hz0]
    have f7 := row2_frozen hz0 7
    have k0 : w5.cell? ⟨g2 + 1 + 1 + 1, 0, none⟩ = some (.int .i64 4) := by simp [World.cell?, show w5.heap[g2 + 1 + 1 + 1]? = some (.cells #[.int .i64 4] 83 (0, 0)) from hK.out]
    have hne : g2 + 1 + 1 + 1 ≠ g2 + 1 + 1 := by omega
    have hne2 : g2 + 1 + 1 ≠ g2 + 1 + 1 + 1 := by omega
    replace hz0 := mkHid hz0
    have FE := mkHid (hE.out.row (show w.heap.size ≤ g2 + 1 + 1 by omega) #[.bool false, .slice none 0 0, .bool false, .slice none 0 0, .bool false, .slice none 0 0, .bool false, .slice none 0 0]).dr
    have FR := mkHid (anyY_zero (w5.setRow (g2 + 1 + 1) #[.bool false, .slice none 0 0, .bool false, .slice none 0 0, .bool false, .slice none 0 0, .bool false, .slice none 0 0]).drew)
    go_region
    rw [set8_all hz0.out]
    go_wp2_with fail
    exact bodyPost_ret (results_row_tmp rfl _ _ (g2 + 1 + 1) 48 #[.bool false, .slice none 0 0, .bool false, .slice none 0 0, .bool false, .slice none 0 0, .bool false, .slice none 0 0] _ _ rfl rfl (setRow_heap _ _ _ _ _ _ hz0.out) Try.underlying48 rfl (by kernel_rfl)) rfl ⟨_, rfl, FE.out, FR.out⟩
theorem through_c (v r : Value) (oa ob oc od oy ou : Option Rat) (w : World) (h : AnyM w v oa ob oc od) (hr : AnyY w r oy ou) :
    Calls Try.prog 25 #[v, r] w fun e w' => ∃ t, e = .returned (.tuple #[t, .int .i64 (thE oa ob oc od oy ou)]) ∧ Ext w w' ∧ AnyY w' t (thY oa ob oc od oy ou) (thU oa ob oc od oy ou) := by
  by_cases hk : okM oa ob oc od = true ∧ okY oy ou = true
  · obtain ⟨hk, hy⟩ := hk
    cases oa <;> cases ob <;> cases oc <;> cases od <;> first | cases hk | skip
    cases oy <;> cases ou <;> first | cases hy | skip
    exact through_fine v r _ _ _ _ _ _ w h hr hk
  · have h2 := through_none v r oa ob oc od oy ou w h hr (by
      cases h1 : okM oa ob oc od with
      | false => exact .inl rfl
      | true =>
        cases h2 : okY oy ou with
        | false => exact .inr rfl
        | true => exact absurd ⟨h1, h2⟩ hk)
    have e : thE oa ob oc od oy ou = 1 ∧ thY oa ob oc od oy ou = none ∧ thU oa ob oc od oy ou = none := by
      cases oa <;> cases ob <;> cases oc <;> cases od <;> cases oy <;> cases ou <;> first | exact ⟨rfl, rfl, rfl⟩ | skip
      rename_i a b c d y u
      have hd : ¬ a * d - b * c = 1 := fun e => hk ⟨by simpa [okM] using e, rfl⟩
      refine ⟨?_, ?_, ?_⟩
      · show (if a * d - b * c = 1 then _ else (1 : Int)) = _
        rw [if_neg hd]
      · show (if a * d - b * c = 1 then _ else (none : Option Rat)) = _
        rw [if_neg hd]
      · show (if a * d - b * c = 1 then _ else (none : Option Rat)) = _
        rw [if_neg hd]
    rw [e.1, e.2.1, e.2.2]
    exact h2
end Go.Proofs.Ytpmfohhpaoagfaa
