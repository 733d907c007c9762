/-
  The catalogue's Put, where it refuses a part: printed by tools/gen_put.py. DERIVED: THE SHELF's CONTRACTS AT THIS DUMP, IN PLAIN WORDS (tools/lay-plain.mjs out of 'YtkkfgphcmnhabaaGreatDoorIterT.lean', which tools/lay-shelf.mjs wrote): THE SAME DECLARATIONS UNDER THE SAME NAMES: 'import', 'namespace', 'open', 'def', 'theorem' AND NOTHING ELSE: no command of the shelf's: FOR A HAND-IN. Each laying: the table of numbers ('.._ren') and one theorem, a field a fact of the dump's own or the kernel's comparison; each contract: ONE APPLICATION. The catalogue's All: its parts by their names, rising, each in rows of its own. The lens whose power is nearest, as a plain matter: the program's way (the first least of those that are lenses) and the reference's (one look along the list) are one. A list of parts in one row: loads, stores, what is cleared; the closure that tells what is no lens; slices.IndexFunc. law25: filled: a catalogue of what goes of a list, and the parts that went in. slices.DeleteFunc at parts: what is no lens goes. Decimal digits by parts of nine: no program.
-/
import Derived.Test.YtkkfgphcmnhabaaGreatDoorKAI
import Derived.Shelf.SlIter.Nil
import Derived.Shelf.SortM.Plain
import Derived.Shelf.SortM.SortNone
import Derived.Ground.GgzProg
import Derived.Ground.SlgmProg
import Derived.Test.YtkkfgphcmnhabaaGreatDoorProg
import Derived.Shelf.SlGeneric
import Derived.Test.YtkkfgphcmnhabaaGreatDoorKAH
import Derived.Test.YtkkfgphcmnhabaaGreatDoorKAG
import Derived.Lib.Bytealg
import Derived.Test.YtkkfgphcmnhabaaGreatDoorKAA
import Derived.Lib.ItoaNum
namespace Go.Proofs.YtkkfgphcmnhabaaGreatDoor
set_option maxRecDepth 100000
open Go Go.RowKit Go.Proofs
set_option maxHeartbeats 1600000 in
theorem put_name (p q : FV) (nm : ByteArray) (kd co : Int) (op oq : Option Rat) (w : World) (g M : Nat) (es : List (PD × Value)) (h : Cat w g M es) (_h1 : AnyF w (.agg #[.bool p.b1, .slice p.a1 p.n1 p.c1, .bool p.b2, .slice p.a2 p.n2 p.c2]) op) (_h2 : AnyF w (.agg #[.bool q.b1, .slice q.a1 q.n1 q.c1, .bool q.b2, .slice q.a2 q.n2 q.c2]) oq) (hs : nm.size ≤ 9223372036854775807) (hnm : nameB nm.data.toList = false) :
    Calls Tryz.prog 14 #[.pointer (some ⟨g, 0, none⟩), .agg #[.string nm, .int .u8 kd, .bool p.b1, .slice p.a1 p.n1 p.c1, .bool p.b2, .slice p.a2 p.n2 p.c2, .bool q.b1, .slice q.a1 q.n1 q.c1, .bool q.b2, .slice q.a2 q.n2 q.c2, .int .i64 co]] w fun e w' => e = .returned (.int .i64 9) ∧ Ext w w' := by
  obtain ⟨wb, hwb⟩ : ∃ wb, wb = w.alloc (.cells #[.string nm, .int .u8 kd, .bool p.b1, .slice p.a1 p.n1 p.c1, .bool p.b2, .slice p.a2 p.n2 p.c2, .bool q.b1, .slice q.a1 q.n1 q.c1, .bool q.b2, .slice q.a2 q.n2 q.c2, .int .i64 co] 38) := ⟨_, rfl⟩
  have hE : Ext w wb := by rw [hwb]; exact (Ext.refl w).al _
  have z0 : wb.heap[w.heap.size]? = some (.cells #[.string nm, .int .u8 kd, .bool p.b1, .slice p.a1 p.n1 p.c1, .bool p.b2, .slice p.a2 p.n2 p.c2, .bool q.b1, .slice q.a1 q.n1 q.c1, .bool q.b2, .slice q.a2 q.n2 q.c2, .int .i64 co] 38 (0, 0)) := by rw [hwb]; exact heap_alloc_new _ _
  have hC := mkHid (fun W (e : Ext wb W) => h.ext (hE.trans e))
  have hG := mkHid (fun W (e : Ext wb W) => gone_l g M W (h.ext (hE.trans e)).str)
  have hN := fun W => named_c nm W hs
  rw [hnm] at hN
  replace hN := mkHid hN
  have c0 : ∀ W, Ext wb W → W.cell? ⟨w.heap.size, 0, none⟩ = some (.string nm) := fun W e => row16_cells (e.blk z0) 0
  replace c0 := mkHid c0
  replace hE := mkHid hE
  replace z0 := mkHid z0
  replace hwb := mkHid hwb
  clear h _h1 _h2 hs hnm
  go_enter Tryz.func14, Tryz.ntmps14
  have tok : Tok 0 := .mk _
  go_wp2_with (first
    | ((have _t : Tok 0 := tok); clear _t; clear tok; (have tok : Tok 1 := .mk _); go_at_call 27; rw [← hwb.out]; refine (hG.out _ (Ext.refl _)).mono ?_; rintro e w1 ⟨rfl, rfl⟩; (have y0 := c0.out _ (Ext.refl _)))
    | ((have _t : Tok 1 := tok); clear _t; clear tok; (have tok : Tok 2 := .mk _); go_at_call 33; refine (hN.out _).mono ?_; rintro e w2 ⟨rfl, hE2⟩; clear y0; replace hE2 := mkHid hE2))
  go_ret
  exact ⟨rfl, hE.out.trans hE2.out⟩
set_option maxHeartbeats 1600000 in
theorem put_arg (p q : FV) (nm : ByteArray) (kd co : Int) (op oq : Option Rat) (w : World) (g M : Nat) (es : List (PD × Value)) (h : Cat w g M es) (h1 : AnyF w (.agg #[.bool p.b1, .slice p.a1 p.n1 p.c1, .bool p.b2, .slice p.a2 p.n2 p.c2]) op) (h2 : AnyF w (.agg #[.bool q.b1, .slice q.a1 q.n1 q.c1, .bool q.b2, .slice q.a2 q.n2 q.c2]) oq) (hs : nm.size ≤ 9223372036854775807) (hnm : nameB nm.data.toList = true) (hmy : mayP kd co op oq = false) :
    Calls Tryz.prog 14 #[.pointer (some ⟨g, 0, none⟩), .agg #[.string nm, .int .u8 kd, .bool p.b1, .slice p.a1 p.n1 p.c1, .bool p.b2, .slice p.a2 p.n2 p.c2, .bool q.b1, .slice q.a1 q.n1 q.c1, .bool q.b2, .slice q.a2 q.n2 q.c2, .int .i64 co]] w fun e w' => e = .returned (.int .i64 1) ∧ Ext w w' := by
  obtain ⟨wb, hwb⟩ : ∃ wb, wb = w.alloc (.cells #[.string nm, .int .u8 kd, .bool p.b1, .slice p.a1 p.n1 p.c1, .bool p.b2, .slice p.a2 p.n2 p.c2, .bool q.b1, .slice q.a1 q.n1 q.c1, .bool q.b2, .slice q.a2 q.n2 q.c2, .int .i64 co] 38) := ⟨_, rfl⟩
  have hE : Ext w wb := by rw [hwb]; exact (Ext.refl w).al _
  have z0 : wb.heap[w.heap.size]? = some (.cells #[.string nm, .int .u8 kd, .bool p.b1, .slice p.a1 p.n1 p.c1, .bool p.b2, .slice p.a2 p.n2 p.c2, .bool q.b1, .slice q.a1 q.n1 q.c1, .bool q.b2, .slice q.a2 q.n2 q.c2, .int .i64 co] 38 (0, 0)) := by rw [hwb]; exact heap_alloc_new _ _
  have hC := mkHid (fun W (e : Ext wb W) => h.ext (hE.trans e))
  have hG := mkHid (fun W (e : Ext wb W) => gone_l g M W (h.ext (hE.trans e)).str)
  have hN := fun W => named_c nm W hs
  rw [hnm] at hN
  replace hN := mkHid hN
  have c0 : ∀ W, Ext wb W → W.cell? ⟨w.heap.size, 0, none⟩ = some (.string nm) := fun W e => row16_cells (e.blk z0) 0
  replace c0 := mkHid c0
  replace hE := mkHid hE
  replace z0 := mkHid z0
  replace hwb := mkHid hwb
  have hY := fun W (e : Ext wb W) => may_v nm kd co p q op oq W (h1.ext (hE.out.trans e)) (h2.ext (hE.out.trans e))
  rw [hmy] at hY
  replace hY := mkHid hY
  clear h h1 h2 hs hnm hmy
  go_enter Tryz.func14, Tryz.ntmps14
  have tok : Tok 0 := .mk _
  go_wp2_with (first
    | ((have _t : Tok 0 := tok); clear _t; clear tok; (have tok : Tok 1 := .mk _); go_at_call 27; rw [← hwb.out]; refine (hG.out _ (Ext.refl _)).mono ?_; rintro e w1 ⟨rfl, rfl⟩; (have y0 := c0.out _ (Ext.refl _)))
    | ((have _t : Tok 1 := tok); clear _t; clear tok; (have tok : Tok 2 := .mk _); go_at_call 33; refine (hN.out _).mono ?_; rintro e w2 ⟨rfl, hE2⟩; clear y0; replace hE2 := mkHid hE2)
    | ((have _t : Tok 2 := tok); clear _t; clear tok; (have tok : Tok 3 := .mk _); refine wpList_load_row (by rfl) 38 (.tmp 3) rfl w.heap.size rfl 38 #[.string nm, .int .u8 kd, .bool p.b1, .slice p.a1 p.n1 p.c1, .bool p.b2, .slice p.a2 p.n2 p.c2, .bool q.b1, .slice q.a1 q.n1 q.c1, .bool q.b2, .slice q.a2 q.n2 q.c2, .int .i64 co] (0, 0) _ (hE2.out.blk z0.out) Tryz.underlying38 rfl (by kernel_rfl) ?_)
    | ((have _t : Tok 3 := tok); clear _t; clear tok; (have tok : Tok 4 := .mk _); go_at_call 34; refine (hY.out _ hE2.out).mono ?_; rintro e w3 ⟨rfl, hx⟩; replace hE2 := mkHid (hE2.out.trans hx); clear hx))
  go_ret
  exact ⟨rfl, hE.out.trans hE2.out⟩
set_option maxHeartbeats 1600000 in
theorem put_twice (p q : FV) (nm : ByteArray) (kd co : Int) (op oq : Option Rat) (w : World) (g M : Nat) (es : List (PD × Value)) (h : Cat w g M es) (h1 : AnyF w (.agg #[.bool p.b1, .slice p.a1 p.n1 p.c1, .bool p.b2, .slice p.a2 p.n2 p.c2]) op) (h2 : AnyF w (.agg #[.bool q.b1, .slice q.a1 q.n1 q.c1, .bool q.b2, .slice q.a2 q.n2 q.c2]) oq) (hs : nm.size ≤ 9223372036854775807) (hnm : nameB nm.data.toList = true) (hmy : mayP kd co op oq = true) (x : PD × Value) (hf : findP nm es = some x) :
    Calls Tryz.prog 14 #[.pointer (some ⟨g, 0, none⟩), .agg #[.string nm, .int .u8 kd, .bool p.b1, .slice p.a1 p.n1 p.c1, .bool p.b2, .slice p.a2 p.n2 p.c2, .bool q.b1, .slice q.a1 q.n1 q.c1, .bool q.b2, .slice q.a2 q.n2 q.c2, .int .i64 co]] w fun e w' => e = .returned (.int .i64 10) ∧ Ext w w' := by
  obtain ⟨dx, vx⟩ := x
  have hx : (dx, vx) ∈ es := List.mem_of_find?_eq_some hf
  obtain ⟨px, qx, e0, -, -⟩ := (h.part _ hx).fv
  have e0' : vx = .agg #[.string dx.nm, .int .u8 dx.kd, .bool px.b1, .slice px.a1 px.n1 px.c1, .bool px.b2, .slice px.a2 px.n2 px.c2, .bool qx.b1, .slice qx.a1 qx.n1 qx.c1, .bool qx.b2, .slice qx.a2 qx.n2 qx.c2, .int .i64 dx.co] := e0
  subst e0'
  obtain ⟨wb, hwb⟩ : ∃ wb, wb = w.alloc (.cells #[.string nm, .int .u8 kd, .bool p.b1, .slice p.a1 p.n1 p.c1, .bool p.b2, .slice p.a2 p.n2 p.c2, .bool q.b1, .slice q.a1 q.n1 q.c1, .bool q.b2, .slice q.a2 q.n2 q.c2, .int .i64 co] 38) := ⟨_, rfl⟩
  have hE : Ext w wb := by rw [hwb]; exact (Ext.refl w).al _
  have z0 : wb.heap[w.heap.size]? = some (.cells #[.string nm, .int .u8 kd, .bool p.b1, .slice p.a1 p.n1 p.c1, .bool p.b2, .slice p.a2 p.n2 p.c2, .bool q.b1, .slice q.a1 q.n1 q.c1, .bool q.b2, .slice q.a2 q.n2 q.c2, .int .i64 co] 38 (0, 0)) := by rw [hwb]; exact heap_alloc_new _ _
  have hC := mkHid (fun W (e : Ext wb W) => h.ext (hE.trans e))
  have hG := mkHid (fun W (e : Ext wb W) => gone_l g M W (h.ext (hE.trans e)).str)
  have hN := fun W => named_c nm W hs
  rw [hnm] at hN
  replace hN := mkHid hN
  have c0 : ∀ W, Ext wb W → W.cell? ⟨w.heap.size, 0, none⟩ = some (.string nm) := fun W e => row16_cells (e.blk z0) 0
  replace c0 := mkHid c0
  replace hE := mkHid hE
  replace z0 := mkHid z0
  replace hwb := mkHid hwb
  have hY := fun W (e : Ext wb W) => may_v nm kd co p q op oq W (h1.ext (hE.out.trans e)) (h2.ext (hE.out.trans e))
  rw [hmy] at hY
  replace hY := mkHid hY
  have cg : ∀ W, Ext wb W → W.cell? ⟨g, 0, none⟩ = some (.map (some M)) := fun W e => cell0 (hC.out W e).str
  replace cg := mkHid cg
  have hL : ∀ W, Ext wb W → (Instr.lookup 70 (.map (some M)) (.string nm) true).run Tryz.prog W = .ok (.tuple #[.agg #[.string dx.nm, .int .u8 dx.kd, .bool px.b1, .slice px.a1 px.n1 px.c1, .bool px.b2, .slice px.a2 px.n2 px.c2, .bool qx.b1, .slice qx.a1 qx.n1 qx.c1, .bool qx.b2, .slice qx.a2 qx.n2 qx.c2, .int .i64 dx.co], .bool true]) W := fun W e => by
    have := (hC.out W e).map.look nm hs
    rw [hf] at this
    exact this
  replace hL := mkHid hL
  clear h h1 h2 hs hnm hmy hf hx e0
  go_enter Tryz.func14, Tryz.ntmps14
  have tok : Tok 0 := .mk _
  go_wp2_with (first
    | ((have _t : Tok 0 := tok); clear _t; clear tok; (have tok : Tok 1 := .mk _); go_at_call 27; rw [← hwb.out]; refine (hG.out _ (Ext.refl _)).mono ?_; rintro e w1 ⟨rfl, rfl⟩; (have y0 := c0.out _ (Ext.refl _)))
    | ((have _t : Tok 1 := tok); clear _t; clear tok; (have tok : Tok 2 := .mk _); go_at_call 33; refine (hN.out _).mono ?_; rintro e w2 ⟨rfl, hE2⟩; clear y0; replace hE2 := mkHid hE2)
    | ((have _t : Tok 2 := tok); clear _t; clear tok; (have tok : Tok 3 := .mk _); refine wpList_load_row (by rfl) 38 (.tmp 3) rfl w.heap.size rfl 38 #[.string nm, .int .u8 kd, .bool p.b1, .slice p.a1 p.n1 p.c1, .bool p.b2, .slice p.a2 p.n2 p.c2, .bool q.b1, .slice q.a1 q.n1 q.c1, .bool q.b2, .slice q.a2 q.n2 q.c2, .int .i64 co] (0, 0) _ (hE2.out.blk z0.out) Tryz.underlying38 rfl (by kernel_rfl) ?_)
    | ((have _t : Tok 3 := tok); clear _t; clear tok; (have tok : Tok 4 := .mk _); go_at_call 34; refine (hY.out _ hE2.out).mono ?_; rintro e w3 ⟨rfl, hx⟩; replace hE2 := mkHid (hE2.out.trans hx); clear hx))
  clear tok
  apply Late.region_late Ext [.val (.pointer (some ⟨g, 0, none⟩)), .val (.pointer (some ⟨g, 0, none⟩)), .val (.pointer (some ⟨g, 0, none⟩)), .val (.map (some M)), .val (.pointer (some ⟨w.heap.size, 0, none⟩)), .val (.string nm), .val (.tuple #[.agg #[.string dx.nm, .int .u8 dx.kd, .bool px.b1, .slice px.a1 px.n1 px.c1, .bool px.b2, .slice px.a2 px.n2 px.c2, .bool qx.b1, .slice qx.a1 qx.n1 qx.c1, .bool qx.b2, .slice qx.a2 qx.n2 qx.c2, .int .i64 dx.co], .bool true]), .val (.tuple #[.agg #[.string dx.nm, .int .u8 dx.kd, .bool px.b1, .slice px.a1 px.n1 px.c1, .bool px.b2, .slice px.a2 px.n2 px.c2, .bool qx.b1, .slice qx.a1 qx.n1 qx.c1, .bool qx.b2, .slice qx.a2 qx.n2 qx.c2, .int .i64 dx.co], .bool true]), .val (.agg #[.string dx.nm, .int .u8 dx.kd, .bool px.b1, .slice px.a1 px.n1 px.c1, .bool px.b2, .slice px.a2 px.n2 px.c2, .bool qx.b1, .slice qx.a1 qx.n1 qx.c1, .bool qx.b2, .slice qx.a2 qx.n2 qx.c2, .int .i64 dx.co]), .val (.bool true), .pred (VarAt wb.heap.size #[.string ⟨#[]⟩, .int .u8 0, .bool false, .slice none 0 0, .bool false, .slice none 0 0, .bool false, .slice none 0 0, .bool false, .slice none 0 0, .int .i64 0] 38)] 9 _ 28 (.bool true) mixed (by kernel_rfl) rfl rfl rfl (by kernel_rfl) (by kernel_rfl) (fun _ _ _ h => h)
    (fun a W _ hf => by
      have h7 : a.tmps.getD 19 undef = .tuple #[.agg #[.string dx.nm, .int .u8 dx.kd, .bool px.b1, .slice px.a1 px.n1 px.c1, .bool px.b2, .slice px.a2 px.n2 px.c2, .bool qx.b1, .slice qx.a1 qx.n1 qx.c1, .bool qx.b2, .slice qx.a2 qx.n2 qx.c2, .int .i64 dx.co], .bool true] := hf 7 _ _ _ rfl rfl rfl (by kernel_rfl)
      refine .inl ⟨rfl, fun w => ?_⟩
      simp only [execOp, Act.eval, h7]
      rfl)
    Ext.refl (fun _ _ _ => Ext.trans) (fun w => (Ext.refl w).dr) (stableAll_mem (stable_vals _ (stable_vals _ (stable_vals _ (stable_vals _ (stable_vals _ (stable_vals _ (stable_vals _ (stable_vals _ (stable_vals _ (stable_vals _ (st_varM _ _ _ trivial))))))))))))
  iterate 3 (refine ⟨fun W hW _ => by go_simp; first | exact ⟨Ext.refl _, rfl⟩ | exact Ext.refl _, ?_⟩)
  refine ⟨fun W hW _ => by have := cg.out W (hE2.out.trans hW); go_simp; first | exact ⟨Ext.refl _, rfl⟩ | exact Ext.refl _, ?_⟩
  refine ⟨fun W hW _ => by go_simp; first | exact ⟨Ext.refl _, rfl⟩ | exact Ext.refl _, ?_⟩
  refine ⟨fun W hW _ => by have := c0.out W (hE2.out.trans hW); go_simp; first | exact ⟨Ext.refl _, rfl⟩ | exact Ext.refl _, ?_⟩
  refine ⟨fun W hW _ => by have := hL.out W (hE2.out.trans hW); go_simp; first | exact ⟨Ext.refl _, rfl⟩ | exact Ext.refl _, ?_⟩
  iterate 3 (refine ⟨fun W hW _ => by go_simp; first | exact ⟨Ext.refl _, rfl⟩ | exact Ext.refl _, ?_⟩)
  refine ⟨fun W hW hF => ?al, fun v10 => fun W hW hF => ?fin⟩
  case al =>
    have hnv := new_var (b := wb.heap.size) (cs := #[.string ⟨#[]⟩, .int .u8 0, .bool false, .slice none 0 0, .bool false, .slice none 0 0, .bool false, .slice none 0 0, .bool false, .slice none 0 0, .int .i64 0]) (T := 38) W (hE2.out.trans hW).size
    replace hnv := mkHid hnv
    go_simp
    exact ⟨hnv.out.1, hnv.out.2.1⟩
  case fin =>
    obtain ⟨gd, rfl, hgb, hgd⟩ := hF.1 rfl
    have hE3 : Ext wb (W.setRow gd #[.string dx.nm, .int .u8 dx.kd, .bool px.b1, .slice px.a1 px.n1 px.c1, .bool px.b2, .slice px.a2 px.n2 px.c2, .bool qx.b1, .slice qx.a1 qx.n1 qx.c1, .bool qx.b2, .slice qx.a2 qx.n2 qx.c2, .int .i64 dx.co]) := (hE2.out.trans hW).row hgb _
    obtain ⟨w4, hw4⟩ : ∃ w4, w4 = W.setRow gd #[.string dx.nm, .int .u8 dx.kd, .bool px.b1, .slice px.a1 px.n1 px.c1, .bool px.b2, .slice px.a2 px.n2 px.c2, .bool qx.b1, .slice qx.a1 qx.n1 qx.c1, .bool qx.b2, .slice qx.a2 qx.n2 qx.c2, .int .i64 dx.co] := ⟨_, rfl⟩
    rw [← hw4] at hE3
    replace hE3 := mkHid hE3
    replace hw4 := mkHid hw4
    replace hgd := mkHid hgd
    clear hF hW hE2
    go_simp
    go_wp2_with (refine wpList_store_row rfl 38 (.tmp 5) (.tmp 27) rfl gd #[.string dx.nm, .int .u8 dx.kd, .bool px.b1, .slice px.a1 px.n1 px.c1, .bool px.b2, .slice px.a2 px.n2 px.c2, .bool qx.b1, .slice qx.a1 qx.n1 qx.c1, .bool qx.b2, .slice qx.a2 qx.n2 qx.c2, .int .i64 dx.co] rfl rfl 38 _ hgd.out (by kernel_rfl) rfl (by kernel_rfl) ?_; rw [← hw4.out])
    go_ret
    exact ⟨rfl, hE.out.trans hE3.out⟩
set_option maxHeartbeats 1600000 in
theorem put_full (p q : FV) (nm : ByteArray) (kd co : Int) (op oq : Option Rat) (w : World) (g M : Nat) (es : List (PD × Value)) (h : Cat w g M es) (h1 : AnyF w (.agg #[.bool p.b1, .slice p.a1 p.n1 p.c1, .bool p.b2, .slice p.a2 p.n2 p.c2]) op) (h2 : AnyF w (.agg #[.bool q.b1, .slice q.a1 q.n1 q.c1, .bool q.b2, .slice q.a2 q.n2 q.c2]) oq) (hs : nm.size ≤ 9223372036854775807) (hnm : nameB nm.data.toList = true) (hmy : mayP kd co op oq = true) (hf : findP nm es = none) (hl : 64 ≤ es.length) :
    Calls Tryz.prog 14 #[.pointer (some ⟨g, 0, none⟩), .agg #[.string nm, .int .u8 kd, .bool p.b1, .slice p.a1 p.n1 p.c1, .bool p.b2, .slice p.a2 p.n2 p.c2, .bool q.b1, .slice q.a1 q.n1 q.c1, .bool q.b2, .slice q.a2 q.n2 q.c2, .int .i64 co]] w fun e w' => e = .returned (.int .i64 12) ∧ Ext w w' := by
  obtain ⟨wb, hwb⟩ : ∃ wb, wb = w.alloc (.cells #[.string nm, .int .u8 kd, .bool p.b1, .slice p.a1 p.n1 p.c1, .bool p.b2, .slice p.a2 p.n2 p.c2, .bool q.b1, .slice q.a1 q.n1 q.c1, .bool q.b2, .slice q.a2 q.n2 q.c2, .int .i64 co] 38) := ⟨_, rfl⟩
  have hE : Ext w wb := by rw [hwb]; exact (Ext.refl w).al _
  have z0 : wb.heap[w.heap.size]? = some (.cells #[.string nm, .int .u8 kd, .bool p.b1, .slice p.a1 p.n1 p.c1, .bool p.b2, .slice p.a2 p.n2 p.c2, .bool q.b1, .slice q.a1 q.n1 q.c1, .bool q.b2, .slice q.a2 q.n2 q.c2, .int .i64 co] 38 (0, 0)) := by rw [hwb]; exact heap_alloc_new _ _
  have hC := mkHid (fun W (e : Ext wb W) => h.ext (hE.trans e))
  have hG := mkHid (fun W (e : Ext wb W) => gone_l g M W (h.ext (hE.trans e)).str)
  have hN := fun W => named_c nm W hs
  rw [hnm] at hN
  replace hN := mkHid hN
  have c0 : ∀ W, Ext wb W → W.cell? ⟨w.heap.size, 0, none⟩ = some (.string nm) := fun W e => row16_cells (e.blk z0) 0
  replace c0 := mkHid c0
  replace hE := mkHid hE
  replace z0 := mkHid z0
  replace hwb := mkHid hwb
  have hY := fun W (e : Ext wb W) => may_v nm kd co p q op oq W (h1.ext (hE.out.trans e)) (h2.ext (hE.out.trans e))
  rw [hmy] at hY
  replace hY := mkHid hY
  have cg : ∀ W, Ext wb W → W.cell? ⟨g, 0, none⟩ = some (.map (some M)) := fun W e => cell0 (hC.out W e).str
  replace cg := mkHid cg
  have hL : ∀ W, Ext wb W → (Instr.lookup 70 (.map (some M)) (.string nm) true).run Tryz.prog W = .ok (.tuple #[zeroPart, .bool false]) W := fun W e => by
    have := (hC.out W e).map.look nm hs
    rw [hf] at this
    exact this
  replace hL := mkHid hL
  clear h h1 h2 hs hnm hmy hf
  go_enter Tryz.func14, Tryz.ntmps14
  have tok : Tok 0 := .mk _
  go_wp2_with (first
    | ((have _t : Tok 0 := tok); clear _t; clear tok; (have tok : Tok 1 := .mk _); go_at_call 27; rw [← hwb.out]; refine (hG.out _ (Ext.refl _)).mono ?_; rintro e w1 ⟨rfl, rfl⟩; (have y0 := c0.out _ (Ext.refl _)))
    | ((have _t : Tok 1 := tok); clear _t; clear tok; (have tok : Tok 2 := .mk _); go_at_call 33; refine (hN.out _).mono ?_; rintro e w2 ⟨rfl, hE2⟩; clear y0; replace hE2 := mkHid hE2)
    | ((have _t : Tok 2 := tok); clear _t; clear tok; (have tok : Tok 3 := .mk _); refine wpList_load_row (by rfl) 38 (.tmp 3) rfl w.heap.size rfl 38 #[.string nm, .int .u8 kd, .bool p.b1, .slice p.a1 p.n1 p.c1, .bool p.b2, .slice p.a2 p.n2 p.c2, .bool q.b1, .slice q.a1 q.n1 q.c1, .bool q.b2, .slice q.a2 q.n2 q.c2, .int .i64 co] (0, 0) _ (hE2.out.blk z0.out) Tryz.underlying38 rfl (by kernel_rfl) ?_)
    | ((have _t : Tok 3 := tok); clear _t; clear tok; (have tok : Tok 4 := .mk _); go_at_call 34; refine (hY.out _ hE2.out).mono ?_; rintro e w3 ⟨rfl, hx⟩; replace hE2 := mkHid (hE2.out.trans hx); clear hx))
  clear tok
  apply Late.region_late Ext [.val (.pointer (some ⟨g, 0, none⟩)), .val (.pointer (some ⟨g, 0, none⟩)), .val (.pointer (some ⟨g, 0, none⟩)), .val (.map (some M)), .val (.pointer (some ⟨w.heap.size, 0, none⟩)), .val (.string nm), .val (.tuple #[zeroPart, .bool false]), .val (.tuple #[zeroPart, .bool false]), .val (zeroPart), .val (.bool false), .pred (VarAt wb.heap.size #[.string ⟨#[]⟩, .int .u8 0, .bool false, .slice none 0 0, .bool false, .slice none 0 0, .bool false, .slice none 0 0, .bool false, .slice none 0 0, .int .i64 0] 38)] 9 _ 28 (.bool false) mixed (by kernel_rfl) rfl rfl rfl (by kernel_rfl) (by kernel_rfl) (fun _ _ _ h => h)
    (fun a W _ hf => by
      have h7 : a.tmps.getD 19 undef = .tuple #[zeroPart, .bool false] := hf 7 _ _ _ rfl rfl rfl (by kernel_rfl)
      refine .inl ⟨rfl, fun w => ?_⟩
      simp only [execOp, Act.eval, h7]
      rfl)
    Ext.refl (fun _ _ _ => Ext.trans) (fun w => (Ext.refl w).dr) (stableAll_mem (stable_vals _ (stable_vals _ (stable_vals _ (stable_vals _ (stable_vals _ (stable_vals _ (stable_vals _ (stable_vals _ (stable_vals _ (stable_vals _ (st_varM _ _ _ trivial))))))))))))
  iterate 3 (refine ⟨fun W hW _ => by go_simp; first | exact ⟨Ext.refl _, rfl⟩ | exact Ext.refl _, ?_⟩)
  refine ⟨fun W hW _ => by have := cg.out W (hE2.out.trans hW); go_simp; first | exact ⟨Ext.refl _, rfl⟩ | exact Ext.refl _, ?_⟩
  refine ⟨fun W hW _ => by go_simp; first | exact ⟨Ext.refl _, rfl⟩ | exact Ext.refl _, ?_⟩
  refine ⟨fun W hW _ => by have := c0.out W (hE2.out.trans hW); go_simp; first | exact ⟨Ext.refl _, rfl⟩ | exact Ext.refl _, ?_⟩
  refine ⟨fun W hW _ => by have := hL.out W (hE2.out.trans hW); go_simp; first | exact ⟨Ext.refl _, rfl⟩ | exact Ext.refl _, ?_⟩
  iterate 3 (refine ⟨fun W hW _ => by go_simp; first | exact ⟨Ext.refl _, rfl⟩ | exact Ext.refl _, ?_⟩)
  refine ⟨fun W hW hF => ?al, fun v10 => fun W hW hF => ?fin⟩
  case al =>
    have hnv := new_var (b := wb.heap.size) (cs := #[.string ⟨#[]⟩, .int .u8 0, .bool false, .slice none 0 0, .bool false, .slice none 0 0, .bool false, .slice none 0 0, .bool false, .slice none 0 0, .int .i64 0]) (T := 38) W (hE2.out.trans hW).size
    replace hnv := mkHid hnv
    go_simp
    exact ⟨hnv.out.1, hnv.out.2.1⟩
  case fin =>
    obtain ⟨gd, rfl, hgb, hgd⟩ := hF.1 rfl
    have hE3 : Ext wb (W.setRow gd #[.string ⟨#[]⟩, .int .u8 0, .bool false, .slice none 0 0, .bool false, .slice none 0 0, .bool false, .slice none 0 0, .bool false, .slice none 0 0, .int .i64 0]) := (hE2.out.trans hW).row hgb _
    obtain ⟨w4, hw4⟩ : ∃ w4, w4 = W.setRow gd #[.string ⟨#[]⟩, .int .u8 0, .bool false, .slice none 0 0, .bool false, .slice none 0 0, .bool false, .slice none 0 0, .bool false, .slice none 0 0, .int .i64 0] := ⟨_, rfl⟩
    rw [← hw4] at hE3
    replace hE3 := mkHid hE3
    replace hw4 := mkHid hw4
    replace hgd := mkHid hgd
    have y1 := cg.out w4 hE3.out
    have y2 := fun ty => (hC.out w4 hE3.out).map.len ty
    have y3 : (64 : Int) ≤ (es.length : Int) := by omega
    clear hl
    clear hF hW hE2
    go_simp
    go_wp2_with (refine wpList_store_row rfl 38 (.tmp 5) (.tmp 27) rfl gd #[.string ⟨#[]⟩, .int .u8 0, .bool false, .slice none 0 0, .bool false, .slice none 0 0, .bool false, .slice none 0 0, .bool false, .slice none 0 0, .int .i64 0] rfl rfl 38 _ hgd.out (by kernel_rfl) rfl (by kernel_rfl) ?_; rw [← hw4.out])
    go_ret
    exact ⟨rfl, hE.out.trans hE3.out⟩
end Go.Proofs.YtkkfgphcmnhabaaGreatDoor
namespace Go.Proofs
open Go.Shelf Go.RowKit Go.Maps Go.Sort
def Tryz.keys29_ren : Go.Shelf.Ren := ⟨fun | 7 => 29 | 10 => 63 | n => n, fun | 23 => 70 | 26 => 9 | 3 => 38 | 28 => 68 | 0 => 0 | 27 => 67 | 33 => 76 | 4 => 4 | n => n, fun | n => n⟩
theorem Tryz.keys29 : Go.Proofs.SlLaysZ.n7 Tryz.prog Tryz.keys29_ren := {
  mixed := by kernel_rfl
  f7 := ⟨Tryz.f29.name, by decide, Tryz.func29.trans (congrArg some (by kernel_rfl))⟩
  f10 := ⟨Tryz.f63.name, by decide, Tryz.func63.trans (congrArg some (by kernel_rfl))⟩
  t0 := Tryz.underlying0
  a0 := Tryz.isAgg0
  z0 := Tryz.sizeOf0
  v0 := Tryz.zeroValue0
  t4 := Tryz.underlying4
  a4 := Tryz.isAgg4
  z4 := Tryz.sizeOf4
  v4 := Tryz.zeroValue4
  t23 := Tryz.underlying70
  a23 := Tryz.isAgg70
  z23 := Tryz.sizeOf70
  v23 := Tryz.zeroValue70
  t26 := Tryz.underlying9
  a26 := Tryz.isAgg9
  z26 := Tryz.sizeOf9
  v26 := Tryz.zeroValue9
  t27 := Tryz.underlying67
  a27 := Tryz.isAgg67
  z27 := Tryz.sizeOf67
  v27 := Tryz.zeroValue67
  t28 := Tryz.underlying68
  a28 := Tryz.isAgg68
  z28 := Tryz.sizeOf68
  v28 := Tryz.zeroValue68
  t33 := Tryz.underlying76
  a33 := Tryz.isAgg76
  z33 := Tryz.sizeOf76
  v33 := Tryz.zeroValue76 }
def Tryz.sorted28_ren : Go.Shelf.Ren := ⟨fun | 6 => 28 | 8 => 61 | 9 => 62 | 11 => 91 | 13 => 93 | 12 => 92 | 23 => 130 | 24 => 131 | 14 => 121 | 15 => 122 | 16 => 123 | 17 => 124 | 18 => 125 | 19 => 126 | 20 => 127 | 21 => 128 | 22 => 129 | 25 => 156 | 26 => 157 | 27 => 158 | 28 => 159 | 29 => 160 | 30 => 161 | 31 => 185 | n => n, fun | 26 => 9 | 28 => 68 | 24 => 65 | 0 => 0 | 3 => 3 | 37 => 137 | 48 => 146 | 50 => 151 | 4 => 4 | 40 => 164 | 39 => 163 | 45 => 129 | 5 => 5 | 9 => 9 | 51 => 193 | 55 => 197 | 57 => 215 | 58 => 216 | 33 => 76 | n => n, fun | n => n⟩
theorem Tryz.sorted28 : Go.Proofs.SlLaysZ.n6 Tryz.prog Tryz.sorted28_ren := {
  mixed := by kernel_rfl
  f6 := ⟨Tryz.f28.name, by decide, Tryz.func28.trans (congrArg some (by kernel_rfl))⟩
  f8 := ⟨Tryz.f61.name, by decide, Tryz.func61.trans (congrArg some (by kernel_rfl))⟩
  f11 := ⟨Tryz.f91.name, by decide, Tryz.func91.trans (congrArg some (by kernel_rfl))⟩
  t0 := Tryz.underlying0
  a0 := Tryz.isAgg0
  z0 := Tryz.sizeOf0
  v0 := Tryz.zeroValue0
  t24 := Tryz.underlying65
  a24 := Tryz.isAgg65
  z24 := Tryz.sizeOf65
  v24 := Tryz.zeroValue65
  t26 := Tryz.underlying9
  a26 := Tryz.isAgg9
  z26 := Tryz.sizeOf9
  v26 := Tryz.zeroValue9
  t28 := Tryz.underlying68
  a28 := Tryz.isAgg68
  z28 := Tryz.sizeOf68
  v28 := Tryz.zeroValue68
  i26 := by kernel_rfl }
def Tryz.sort62_ren : Go.Shelf.Ren := ⟨fun | 6 => 62 | 8 => 93 | 9 => 92 | 19 => 130 | 20 => 131 | 21 => 121 | 22 => 122 | 23 => 123 | 24 => 124 | 25 => 125 | 26 => 126 | 27 => 127 | 28 => 128 | 29 => 129 | 36 => 156 | 31 => 157 | 32 => 158 | 37 => 159 | 38 => 160 | 39 => 161 | 41 => 185 | n => n, fun | 27 => 65 | 29 => 9 | 3 => 3 | 32 => 137 | 26 => 65 | 0 => 0 | 44 => 146 | 46 => 151 | 4 => 4 | 36 => 164 | 35 => 163 | 41 => 129 | 5 => 5 | 9 => 9 | 53 => 193 | 57 => 197 | 63 => 215 | 64 => 216 | n => n, fun | n => n⟩
theorem Tryz.sort62 : Go.Proofs.SlLaysM.n6 Tryz.prog Tryz.sort62_ren := {
  mixed := by kernel_rfl
  f6 := ⟨Tryz.f62.name, by decide, Tryz.func62.trans (congrArg some (by kernel_rfl))⟩
  f8 := Tryz.func93.trans (congrArg some (by kernel_rfl))
  f9 := ⟨Tryz.f92.name, by decide, Tryz.func92.trans (congrArg some (by kernel_rfl))⟩
  f19 := Tryz.func130.trans (congrArg some (by kernel_rfl))
  f20 := Tryz.func131.trans (congrArg some (by kernel_rfl))
  f21 := ⟨Tryz.f121.name, by decide, Tryz.func121.trans (congrArg some (by kernel_rfl))⟩
  f22 := ⟨Tryz.f122.name, by decide, Tryz.func122.trans (congrArg some (by kernel_rfl))⟩
  f23 := ⟨Tryz.f123.name, by decide, Tryz.func123.trans (congrArg some (by kernel_rfl))⟩
  f24 := ⟨Tryz.f124.name, by decide, Tryz.func124.trans (congrArg some (by kernel_rfl))⟩
  f25 := ⟨Tryz.f125.name, by decide, Tryz.func125.trans (congrArg some (by kernel_rfl))⟩
  f26 := ⟨Tryz.f126.name, by decide, Tryz.func126.trans (congrArg some (by kernel_rfl))⟩
  f27 := ⟨Tryz.f127.name, by decide, Tryz.func127.trans (congrArg some (by kernel_rfl))⟩
  f28 := ⟨Tryz.f128.name, by decide, Tryz.func128.trans (congrArg some (by kernel_rfl))⟩
  f29 := ⟨Tryz.f129.name, by decide, Tryz.func129.trans (congrArg some (by kernel_rfl))⟩
  f31 := Tryz.func157.trans (congrArg some (by kernel_rfl))
  f32 := Tryz.func158.trans (congrArg some (by kernel_rfl))
  f36 := ⟨Tryz.f156.name, by decide, Tryz.func156.trans (congrArg some (by kernel_rfl))⟩
  f37 := ⟨Tryz.f159.name, by decide, Tryz.func159.trans (congrArg some (by kernel_rfl))⟩
  f38 := ⟨Tryz.f160.name, by decide, Tryz.func160.trans (congrArg some (by kernel_rfl))⟩
  f39 := ⟨Tryz.f161.name, by decide, Tryz.func161.trans (congrArg some (by kernel_rfl))⟩
  f41 := ⟨Tryz.f185.name, by decide, Tryz.func185.trans (congrArg some (by kernel_rfl))⟩
  t0 := Tryz.underlying0
  a0 := Tryz.isAgg0
  z0 := Tryz.sizeOf0
  v0 := Tryz.zeroValue0
  t3 := Tryz.underlying3
  a3 := Tryz.isAgg3
  z3 := Tryz.sizeOf3
  v3 := Tryz.zeroValue3
  t4 := Tryz.underlying4
  a4 := Tryz.isAgg4
  z4 := Tryz.sizeOf4
  v4 := Tryz.zeroValue4
  t5 := Tryz.underlying5
  a5 := Tryz.isAgg5
  z5 := Tryz.sizeOf5
  v5 := Tryz.zeroValue5
  t9 := Tryz.underlying9
  a9 := Tryz.isAgg9
  z9 := Tryz.sizeOf9
  v9 := Tryz.zeroValue9
  t26 := Tryz.underlying65
  a26 := Tryz.isAgg65
  z26 := Tryz.sizeOf65
  v26 := Tryz.zeroValue65
  t27 := Tryz.underlying65
  a27 := Tryz.isAgg65
  z27 := Tryz.sizeOf65
  v27 := Tryz.zeroValue65
  t29 := Tryz.underlying9
  a29 := Tryz.isAgg9
  z29 := Tryz.sizeOf9
  v29 := Tryz.zeroValue9
  t32 := Tryz.underlying137
  a32 := Tryz.isAgg137
  z32 := Tryz.sizeOf137
  v32 := Tryz.zeroValue137
  t35 := Tryz.underlying163
  a35 := Tryz.isAgg163
  z35 := Tryz.sizeOf163
  v35 := Tryz.zeroValue163
  t36 := Tryz.underlying164
  a36 := Tryz.isAgg164
  z36 := Tryz.sizeOf164
  v36 := Tryz.zeroValue164
  t41 := Tryz.underlying129
  a41 := Tryz.isAgg129
  z41 := Tryz.sizeOf129
  v41 := Tryz.zeroValue129
  t44 := Tryz.underlying146
  a44 := Tryz.isAgg146
  z44 := Tryz.sizeOf146
  v44 := Tryz.zeroValue146
  t46 := Tryz.underlying151
  a46 := Tryz.isAgg151
  z46 := Tryz.sizeOf151
  v46 := Tryz.zeroValue151
  t53 := Tryz.underlying193
  a53 := Tryz.isAgg193
  z53 := Tryz.sizeOf193
  v53 := Tryz.zeroValue193
  t57 := Tryz.underlying197
  a57 := Tryz.isAgg197
  z57 := Tryz.sizeOf197
  v57 := Tryz.zeroValue197
  t63 := Tryz.underlying215
  a63 := Tryz.isAgg215
  z63 := Tryz.sizeOf215
  v63 := Tryz.zeroValue215
  t64 := Tryz.underlying216
  a64 := Tryz.isAgg216
  z64 := Tryz.sizeOf216
  v64 := Tryz.zeroValue216 }
theorem Tryz.sorts28 (m : Nat) : AnyZ.SortsIn Tryz.prog Tryz.sorted28_ren Fence.wide m :=
  ⟨fun blk off cap ss W hH hblk hsz => callsIn_wide.2 (AnyM.slices_Sort_string Tryz.sort62 blk off cap ss W hH hblk hsz),
   fun p cap W => callsIn_wide.2 (AnyM.slices_Sort_string_none Tryz.sort62 p cap W)⟩

theorem Tryz.maps_Keys_29 (mb : Option Nat) (W : World) : CallsIn Fence.wide 5 Tryz.prog 29 #[.map mb] W fun e w' => e = .returned (.func (.func 63) #[] #[.pointer (some ⟨W.heap.size, 0, none⟩)]) ∧ w' = W.alloc (.cells #[.map mb] 70) :=
  AnyZ.keys_in Tryz.keys29 Fence.wide 5 trivial rfl mb W

set_option maxHeartbeats 1000000 in
theorem Tryz.slices_Sorted_keys_28_29 {H : Type} (b nn : Nat) (D0 : DataW H) (R : Value → Option (DataW H × List MemPlace)) (w : World) (hown : w.ownsMap Tryz.prog 9 R b nn D0) (hmax : Maps.size D0 ≤ maxLen) (hbytes : Maps.size D0 * 16 ≤ 140737488355328) :
    CallsIn Fence.wide 5 Tryz.prog 28 #[.func (.func 63) #[] #[.pointer (some ⟨w.heap.size, 0, none⟩)]] (w.alloc (.cells #[.map (some b)] 70)) fun e w' => ∃ (v : Value) (ss : List (List UInt8)), e = .returned v ∧ ss.Perm (strKeys D0) ∧
      w'.ownsRow (w.alloc (.cells #[.map (some b)] 70)).heap.size 9 1 v ss.length ((ss.mergeSort (fun x y => decide (x ≤ y))).map encStr) ∧ (v = .slice none 0 0 ↔ ss = []) ∧ Below (w.alloc (.cells #[.map (some b)] 70)).heap.size (w.alloc (.cells #[.map (some b)] 70)) w' := by
  have hbl := hown.lt
  have hseq : SeqGives Fence.wide 2 Tryz.prog 63 #[.pointer (some ⟨w.heap.size, 0, none⟩)] encStr (fun ss => ss.Perm (strKeys D0)) (Maps.size D0) (w.alloc (.cells #[.map (some b)] 70)) :=
    AnyZ.keys_gives (ρ := Tryz.keys29_ren) { Tryz.keys29 with } Fence.wide _ trivial rfl (by omega) w.heap.size b nn D0 _ (by simp) (by simp) (by
      obtain ⟨es, clock, hb, Ft, hs, hD⟩ := hown
      exact ⟨es, clock, (Below.heap_alloc _ _ b hbl).trans hb, Ft, hs, hD⟩)
  exact AnyZ.sorted_in Tryz.sorted28 Fence.wide 5 trivial trivial trivial trivial rfl (by omega) (Tryz.sorts28 _) (enters_of Tryz.func62 (by kernel_rfl) rfl) 63 #[.pointer (some ⟨w.heap.size, 0, none⟩)] trivial (enters_of Tryz.func63 (by kernel_rfl) rfl) _ _ hmax hbytes _ hseq

end Go.Proofs
namespace Go.Proofs.YtkkfgphcmnhabaaGreatDoor
set_option maxRecDepth 100000
open Go Go.RowKit Go.Proofs
/-- A loop over the names: so many parts are out. -/
def AllR (w1 : World) (es : List (PD × Value)) (t3 t15 : Value) (wr : World) : Prop :=
  ∃ (os : List (PD × Value)) (k : Nat), k ≤ es.length ∧ t15 = .int .i64 k ∧ os.length = k ∧ os.map (·.1) = (es.take k).map (·.1) ∧ OutP w1.heap.size wr t3 os ∧ Ext w1 wr
def AllQ (w : World) (es : List (PD × Value)) (e : Ending) (w' : World) : Prop := ∃ v os, e = .returned v ∧ OutP w.heap.size w' v os ∧ os.map (·.1) = es.map (·.1) ∧ Ext w w'
theorem row_name {w : World} {b o : Nat} {es : List (PD × Value)} (h : Row w (some ⟨b, o, none⟩) ((es.map fun x => x.1.nm.data.toList).map encStr)) (j : Nat) (hj : j < es.length) :
    w.cell? ⟨b, o + j, none⟩ = some (.string es[j].1.nm) := by
  obtain ⟨b', o', e, hc⟩ := h
  have e := e (by intro e; simp at e; simp [e] at hj)
  cases e
  rw [hc j (by simpa using hj)]
  simp [List.getD_eq_getElem?_getD, hj]
set_option maxHeartbeats 1600000 in
theorem all_l (w : World) (g M : Nat) (es : List (PD × Value)) (h : Cat w g M es) :
    Calls Tryz.prog 8 #[.pointer (some ⟨g, 0, none⟩)] w (AllQ w es) := by
  obtain ⟨i0, hi, hz0, hz1, hz2⟩ := info_parts infoPart
  have hG := mkHid (gone_l g M w h.str)
  have cg := cell0 h.str
  have hKS := mkHid (callsIn_wide.1 (Tryz.maps_Keys_29 (some M) w))
  have hSS := mkHid (callsIn_wide.1 (Tryz.slices_Sorted_keys_28_29 M es.length (.map (es.map entM)) heldR w h.map (by rw [Maps.size_eq, List.length_map]; have := h.few; unfold maxLen; omega) (by rw [Maps.size_eq, List.length_map]; have := h.few; omega)))
  have hri := mkHid h.map.rising
  have hC := mkHid (fun W (e : Ext w W) => h.ext e)
  have hfew := h.few
  clear h
  go_enter Tryz.func8, Tryz.ntmps8
  have tok : Tok 0 := .mk _
  go_wp2_with (first
    | ((have _t : Tok 0 := tok); clear _t; clear tok; (have tok : Tok 1 := .mk _); go_at_call 27; refine hG.out.mono ?_; rintro e w' ⟨rfl, rfl⟩)
    | ((have _t : Tok 1 := tok); clear _t; clear tok; (have tok : Tok 2 := .mk _); go_at_call 29; refine hKS.out.mono ?_; rintro e w' ⟨rfl, rfl⟩)
    | ((have _t : Tok 2 := tok); clear _t; clear tok; (have tok : Tok 3 := .mk _); go_at_call 28; refine hSS.out.mono ?_; rintro e w1 ⟨v, ss, rfl, hp, hrow, hnil, hB⟩; (obtain ⟨a, c, rfl, hca, hrw⟩ := row_of_owns hrow); rw [names_sorted hri.out hp] at hrw; (have hlen : ss.length = es.length := by (have := hp.length_eq; simpa [strKeys] using this)); rw [hlen] at hca ⊢; (have hE1 := mkHid (((Ext.refl w).al (.cells #[.map (some M)] 70)).trans hB)); replace hrw := mkHid hrw; replace hca := mkHid hca; clear hp hrow hnil hB hlen))
  clear tok hKS hSS hG cg hri
  have st : AllR w1 es (.slice none 0 0) (.int .i64 0) w1 := ⟨[], 0, Nat.zero_le _, rfl, rfl, by simp, outP_nil _ _, Ext.refl _⟩
  replace st := mkHid st
  go_loopw [3, 15] (fun t3 t15 wr => AllR w1 es t3 t15 wr) (fun _ i _ => es.length - (intOf i).toNat)
  case atStart => exact st.out
  case round =>
    clear st
    obtain ⟨os, k, hk, rfl, hol, hmap, hO, hEr⟩ := hrel
    obtain ⟨w2, rfl⟩ : ∃ w2 : World, w2 = wr := ⟨_, rfl⟩
    by_cases hlt : k < es.length
    · have hxm : es[k] ∈ es := List.getElem_mem hlt
      obtain ⟨d, v, hdv⟩ : ∃ d v, es[k] = (d, v) := ⟨_, _, rfl⟩
      have hCw := hC.out w2 (hE1.out.trans hEr)
      rw [hdv] at hxm
      obtain ⟨p, q, e0, -, -⟩ := (hCw.part _ hxm).fv
      have e0' : v = .agg #[.string d.nm, .int .u8 d.kd, .bool p.b1, .slice p.a1 p.n1 p.c1, .bool p.b2, .slice p.a2 p.n2 p.c2, .bool q.b1, .slice q.a1 q.n1 q.c1, .bool q.b2, .slice q.a2 q.n2 q.c2, .int .i64 d.co] := e0
      subst e0'
      obtain ⟨b, o, rfl⟩ : ∃ b o, a = some ⟨b, o, none⟩ := by
        obtain ⟨b, o, e, _⟩ := hrw.out
        exact ⟨b, o, e (by intro e; simp at e; rw [e] at hlt; simp at hlt)⟩
      have hcell := row_name (hrw.out.ext hEr) k hlt
      rw [hdv] at hcell
      replace hcell : w2.cell? ⟨b, o + k, none⟩ = some (.string d.nm) := hcell
      have hnm : d.nm.size ≤ 9223372036854775807 := by
        have := (hCw.ok _ hxm).2.2.1
        unfold nameB at this
        simp only [Bool.and_eq_true, decide_eq_true_eq] at this
        have := this.2.1
        rw [Array.length_toList] at this
        show d.nm.data.size ≤ _
        omega
      have hlk := hCw.map.look1 d.nm hnm
      rw [findP_mem hCw.map.rising hxm] at hlk
      replace hlk : (Instr.lookup 70 (.map (some M)) (.string d.nm) false).run Tryz.prog w2 = .ok (.agg #[.string d.nm, .int .u8 d.kd, .bool p.b1, .slice p.a1 p.n1 p.c1, .bool p.b2, .slice p.a2 p.n2 p.c2, .bool q.b1, .slice q.a1 q.n1 q.c1, .bool q.b2, .slice q.a2 q.n2 q.c2, .int .i64 d.co]) w2 := hlk
      have cg2 := cell0 hCw.str
      have hK := mkHid (copied_k (.agg #[.string d.nm, .int .u8 d.kd, .bool p.b1, .slice p.a1 p.n1 p.c1, .bool p.b2, .slice p.a2 p.n2 p.c2, .bool q.b1, .slice q.a1 q.n1 q.c1, .bool q.b2, .slice q.a2 q.n2 q.c2, .int .i64 d.co]) d w2 (Nat.le_trans (hCw.ok _ hxm).1 (by decide)) (Nat.le_trans (hCw.ok _ hxm).2.1 (by decide)) (hCw.part _ hxm))
      have hlt' : (k : Int) < (es.length : Int) := by omega
      replace hO := mkHid hO
      replace hEr := mkHid hEr
      replace hdv := mkHid hdv
      replace hmap := mkHid hmap
      replace hol := mkHid hol
      clear hCw hxm e0 hnm
      have tok : Tok 10 := .mk _
      go_wp2_with (first
        | ((have _t : Tok 10 := tok); clear _t; clear tok; (have tok : Tok 11 := .mk _); go_at_call 30; refine hK.out.mono ?_; rintro e w3 ⟨v3, rfl, hE3, hv3⟩; (obtain ⟨p', q', rfl, -, -⟩ := hv3.r.fv); replace hE3 := mkHid hE3; replace hv3 := mkHid hv3)
        | ((have _t : Tok 11 := tok); clear _t; clear tok; (have tok : Tok 12 := .mk _); at_builtin; (have X := hO.out.ext hE3.out); (have Z := X.row.alloc (.cells #[.string d.nm, .int .u8 d.kd, .bool p'.b1, .slice p'.a1 p'.n1 p'.c1, .bool p'.b2, .slice p'.a2 p'.n2 p'.c2, .bool q'.b1, .slice q'.a1 q'.n1 q'.c1, .bool q'.b2, .slice q'.a2 q'.n2 q'.c2, .int .i64 d.co] 38)); (have U := Tryz.underlying22); refine wpList_append_own_at _ ?ya ?yb ?yc 22 ?yd w1.heap.size 38 i0 zeroPart 11 160 U hi hz0 hz1 hz2 ?ye ?yf u3 os.length (cellsP os) ?yh Z ⟨w3.heap.size, 0, none⟩ 1 1 [.string d.nm, .int .u8 d.kd, .bool p'.b1, .slice p'.a1 p'.n1 p'.c1, .bool p'.b2, .slice p'.a2 p'.n2 p'.c2, .bool q'.b1, .slice q'.a1 q'.n1 q'.c1, .bool q'.b2, .slice q'.a2 q'.n2 q'.c2, .int .i64 d.co] ?yi ?yj ?zc1 ?zc2 ?zc3 ?zc4 ?zc5 ?_; (case ya => rfl); (case yd => rfl); (case ye => rfl); (case yf => decide); (case yh => rfl); (case yi => rfl); (case yj => rfl); (case zc1 => exact news_cells w3 _ _); (case zc2 => exact part_one d p' q'); (case zc3 => have := hol.out; unfold maxLen; omega); (case zc4 => have := hol.out; omega); (case zc5 => have := hEr.out.size; have := hE3.out.size; rw [World.size_alloc]; omega); intro v4 w4 hown4 hgrow4 _ hloc4; clear X Z U; replace hown4 := mkHid hown4; replace hgrow4 := mkHid hgrow4; replace hloc4 := mkHid hloc4))
      have hx := (hE3.out.al (.cells #[.string d.nm, .int .u8 d.kd, .bool p'.b1, .slice p'.a1 p'.n1 p'.c1, .bool p'.b2, .slice p'.a2 p'.n2 p'.c2, .bool q'.b1, .slice q'.a1 q'.n1 q'.c1, .bool q'.b2, .slice q'.a2 q'.n2 q'.c2, .int .i64 d.co] 38))
      have hO4 := hO.out.snoc hEr.out.size hx (hv3.out.ext ((Ext.refl w3).al _)) hown4.out hgrow4.out hloc4.out
      have hE4 : Ext w1 w4 := (hEr.out.trans hx).gr hgrow4.out fun k e => (hO.out.ownLt k e).1
      have hm4 : (os ++ [(d, Value.agg #[.string d.nm, .int .u8 d.kd, .bool p'.b1, .slice p'.a1 p'.n1 p'.c1, .bool p'.b2, .slice p'.a2 p'.n2 p'.c2, .bool q'.b1, .slice q'.a1 q'.n1 q'.c1, .bool q'.b2, .slice q'.a2 q'.n2 q'.c2, .int .i64 d.co])]).map (·.1) = (es.take (k + 1)).map (·.1) := by
        rw [List.map_append, hmap.out, List.take_succ_eq_append_getElem hlt, List.map_append, hdv.out]
        rfl
      refine ⟨⟨_, k + 1, by omega, by go_num, by simp [hol.out], hm4, hO4, hE4⟩, by simp [intOf]; omega⟩
    · have hk2 : k = es.length := by omega
      subst hk2
      rw [List.take_length] at hmap
      replace hO := mkHid hO
      replace hEr := mkHid hEr
      replace hmap := mkHid hmap
      clear hol
      go_wp2_with fail
      go_ret
      exact ⟨_, os, rfl, hO.out.mono hE1.out.size, hmap.out, hE1.out.trans hEr.out⟩
end Go.Proofs.YtkkfgphcmnhabaaGreatDoor
namespace Go.Proofs.YtkkfgphcmnhabaaGreatDoor
set_option maxRecDepth 100000
open Go Go.RowKit Go.Proofs
def rabs (q : Rat) : Rat := if q.num < 0 then -q else q
/-- As Cmp tells it. -/
def cS (a b : Rat) : Int := (a.num * b.den - b.num * a.den).sign
def offP (x : Rat) (d : PD) : Rat := rabs (d.p - x)
def bef (a b : PD) : Bool := bytesBefore a.nm.data.toList b.nm.data.toList
/-- The reference's test. -/
def lessP (x : Rat) (d b : PD) : Bool := decide (cS (offP x d) (offP x b) < 0) || (decide (cS (offP x d) (offP x b) = 0) && decide (d.co < b.co))
def orI (a b c : Int) : Int := if a ≠ 0 then a else if b ≠ 0 then b else c
def cmpI (a b : Int) : Int := if a < b then -1 else if a > b then 1 else 0
/-- The program's. -/
def cmp3 (x : Rat) (d b : PD) : Int := orI (cS (offP x d) (offP x b)) (cmpI d.co b.co) (Lib.compareBytes d.nm.data.toList b.nm.data.toList)
theorem compare_after : ∀ (a b : List UInt8), bytesBefore a b = true → Lib.compareBytes b a = 1
  | [], [], h => by simp [bytesBefore] at h
  | [], _ :: _, _ => rfl
  | _ :: _, [], h => by simp [bytesBefore] at h
  | a :: r, b :: s, h => by
    simp only [bytesBefore, Bool.or_eq_true, decide_eq_true_eq, Bool.and_eq_true, beq_iff_eq] at h
    show (if b < a then (-1 : Int) else if a < b then 1 else Lib.compareBytes s r) = 1
    rcases h with h | ⟨rfl, h⟩
    · have h' : ¬ b < a := by rw [UInt8.lt_iff_toNat_lt] at h ⊢; omega
      rw [if_neg h', if_pos h]
    · have h' : ¬ a < a := by rw [UInt8.lt_iff_toNat_lt]; omega
      rw [if_neg h', if_neg h', compare_after r s h]
theorem cS_val (a b : Rat) : cS a b = -1 ∨ cS a b = 0 ∨ cS a b = 1 := by
  unfold cS
  rcases Int.lt_trichotomy (a.num * b.den - b.num * a.den) 0 with h | h | h
  · exact .inl (Int.sign_eq_neg_one_of_neg h)
  · exact .inr (.inl (by rw [h]; rfl))
  · exact .inr (.inr (Int.sign_eq_one_of_pos h))
theorem cmp3_less (x : Rat) (d b : PD) (h : bef b d = true) : decide (cmp3 x d b < 0) = lessP x d b := by
  have hc := compare_after _ _ h
  unfold cmp3 lessP orI
  rw [hc]
  rcases cS_val (offP x d) (offP x b) with e | e | e
  · rw [e]; rfl
  · rw [e]
    unfold cmpI
    by_cases h1 : d.co < b.co
    · simp [h1]
    · by_cases h2 : d.co > b.co
      · simp [h1, h2]
      · simp [h1, h2]
  · rw [e]; rfl
def lensB (d : PD) : Bool := d.kd == 2
/-- The program's look: the first least one. -/
def minF (x : Rat) (m : PD) (l : List PD) : PD := l.foldl (fun m d => if cmp3 x d m < 0 then d else m) m
/-- The reference's, from what is best so far. -/
def nearG (x : Rat) : Option PD → List PD → Option PD
  | o, [] => o
  | o, d :: r => if lensB d then (match o with | none => nearG x (some d) r | some b => nearG x (some (if lessP x d b then d else b)) r) else nearG x o r
theorem minF_near (x : Rat) : ∀ (l : List PD) (m : PD), (∀ d ∈ l, bef m d = true) → l.Pairwise (fun a b => bef a b = true) → nearG x (some m) l = some (minF x m (l.filter lensB))
  | [], m, _, _ => rfl
  | d :: r, m, h1, h2 => by
    obtain ⟨h3, h4⟩ := List.pairwise_cons.1 h2
    unfold nearG
    by_cases hl : lensB d = true
    · rw [if_pos hl, List.filter_cons_of_pos hl]
      have hc := cmp3_less x d m (h1 d (List.mem_cons_self ..))
      show nearG x (some (if lessP x d m then d else m)) r = some (minF x (if cmp3 x d m < 0 then d else m) (r.filter lensB))
      by_cases h5 : cmp3 x d m < 0
      · rw [decide_eq_true h5] at hc
        rw [← hc, if_pos rfl, if_pos h5]
        exact minF_near x r d h3 h4
      · rw [decide_eq_false h5] at hc
        rw [← hc, if_neg (by simp), if_neg h5]
        exact minF_near x r m (fun e he => h1 e (List.mem_cons_of_mem _ he)) h4
    · rw [if_neg hl, List.filter_cons_of_neg hl]
      exact minF_near x r m (fun e he => h1 e (List.mem_cons_of_mem _ he)) h4
theorem near_both (x : Rat) : ∀ (l : List PD), l.Pairwise (fun a b => bef a b = true) → nearG x none l = match l.filter lensB with | [] => none | m :: r => some (minF x m r)
  | [], _ => rfl
  | d :: r, h => by
    obtain ⟨h3, h4⟩ := List.pairwise_cons.1 h
    unfold nearG
    by_cases hl : lensB d = true
    · rw [if_pos hl, List.filter_cons_of_pos hl]
      exact minF_near x r d h3 h4
    · rw [if_neg hl, List.filter_cons_of_neg hl]
      exact near_both x r h4
end Go.Proofs.YtkkfgphcmnhabaaGreatDoor
namespace Go.Proofs.YtkkfgphcmnhabaaGreatDoor
set_option maxRecDepth 100000
open Go Go.RowKit Go.Proofs
def AllV (os : List (PD × Value)) : Prop := ∀ x ∈ os, ∃ p q : FV, x.2 = .agg #[.string x.1.nm, .int .u8 x.1.kd, .bool p.b1, .slice p.a1 p.n1 p.c1, .bool p.b2, .slice p.a2 p.n2 p.c2, .bool q.b1, .slice q.a1 q.n1 q.c1, .bool q.b2, .slice q.a2 q.n2 q.c2, .int .i64 x.1.co]
theorem OutP.allV {lo : Nat} {w : World} {s : Value} {os : List (PD × Value)} (h : OutP lo w s os) : AllV os := fun x hx => by
  obtain ⟨p, q, e, -, -⟩ := (h.part x hx).r.fv
  exact ⟨p, q, e⟩
theorem cellsP_append (a b : List (PD × Value)) : cellsP (a ++ b) = cellsP a ++ cellsP b := by simp [cellsP]
theorem cellsP_len : ∀ {os : List (PD × Value)}, AllV os → (cellsP os).length = os.length * 11
  | [], _ => rfl
  | x :: r, h => by
    obtain ⟨p, q, e⟩ := h x (List.mem_cons_self ..)
    have ih := cellsP_len (os := r) fun y hy => h y (List.mem_cons_of_mem _ hy)
    have : cellsP (x :: r) = x.2.cells.toList ++ cellsP r := rfl
    rw [this, List.length_append, ih, e, List.length_cons]
    show 11 + _ = _
    omega
theorem AllV.take {os : List (PD × Value)} (h : AllV os) (i : Nat) : AllV (os.take i) := fun x hx => h x (List.mem_of_mem_take hx)
theorem AllV.drop {os : List (PD × Value)} (h : AllV os) (i : Nat) : AllV (os.drop i) := fun x hx => h x (List.mem_of_mem_drop hx)
theorem AllV.set {os : List (PD × Value)} (h : AllV os) (i : Nat) {x : PD × Value} (hx : x ∈ os) : AllV (os.set i x) := fun y hy => by
  rcases List.mem_or_eq_of_mem_set hy with hy | rfl
  · exact h y hy
  · exact h _ hx
theorem cellsP_split {os : List (PD × Value)} (h : AllV os) {i : Nat} (hi : i < os.length) : cellsP os = cellsP (os.take i) ++ (os[i].2.cells.toList ++ cellsP (os.drop (i + 1))) ∧ (cellsP (os.take i)).length = i * 11 := by
  refine ⟨?_, ?_⟩
  · rw [show os[i].2.cells.toList ++ cellsP (os.drop (i + 1)) = cellsP (os.drop i) by rw [List.drop_eq_getElem_cons hi]; rfl, ← cellsP_append, List.take_append_drop]
  · rw [cellsP_len (h.take i), List.length_take, Nat.min_eq_left (Nat.le_of_lt hi)]
theorem row_extract {os : List (PD × Value)} (h : AllV os) {i : Nat} (hi : i < os.length) (rest : List Value) {sub : Array Value} (e : os[i].2 = .agg sub) :
    (cellsP os ++ rest).toArray.extract (i * 11) (i * 11 + sub.size) = sub := by
  obtain ⟨h1, h2⟩ := cellsP_split h hi
  rw [e] at h1
  have h1' : cellsP os = cellsP (os.take i) ++ (sub.toList ++ cellsP (os.drop (i + 1))) := h1
  apply Array.toList_inj.1
  rw [Array.toList_extract, List.extract_eq_take_drop, h1', List.append_assoc, List.drop_append_of_le_length (by omega), List.drop_of_length_le (by omega), List.nil_append, List.append_assoc]
  rw [show i * 11 + sub.size - i * 11 = sub.toList.length by simp, List.take_left]
theorem splice3 {α : Type} (A B C R S : List α) (k : Nat) (hA : A.length = k) (hB : B.length = 11) : (A ++ (B ++ C) ++ R).take k ++ S ++ (A ++ (B ++ C) ++ R).drop (k + 11) = A ++ (S ++ C) ++ R := by
  have e1 : A ++ (B ++ C) ++ R = A ++ (B ++ C ++ R) := by simp
  have e2 : A ++ (B ++ C) ++ R = (A ++ B) ++ (C ++ R) := by simp
  have h1 : (A ++ (B ++ C) ++ R).take k = A := by rw [e1, ← hA, List.take_left]
  have h2 : (A ++ (B ++ C) ++ R).drop (k + 11) = C ++ R := by rw [e2, show k + 11 = (A ++ B).length by rw [List.length_append]; omega, List.drop_left]
  rw [h1, h2]
  simp
theorem row_set {os : List (PD × Value)} (h : AllV os) {i : Nat} (hi : i < os.length) (rest : List Value) {x : PD × Value} {sub : Array Value} (e : x.2 = .agg sub) (hs : sub.size = 11) :
    (cellsP (os.set i x) ++ rest).toArray = ((cellsP os ++ rest).toArray.toList.take (i * 11) ++ sub.toList ++ (cellsP os ++ rest).toArray.toList.drop (i * 11 + sub.size)).toArray := by
  obtain ⟨h1, h2⟩ := cellsP_split h hi
  obtain ⟨p, q, e0⟩ := h os[i] (List.getElem_mem hi)
  have h3 : os[i].2.cells.toList.length = 11 := by rw [e0]; rfl
  have h4 : cellsP (os.set i x) = cellsP (os.take i) ++ (sub.toList ++ cellsP (os.drop (i + 1))) := by
    rw [List.set_eq_take_append_cons_drop, if_pos hi, cellsP_append]
    show _ ++ (x.2.cells.toList ++ _) = _
    rw [e]
    rfl
  rw [h4, hs]
  congr 1
  show _ = (cellsP os ++ rest).take (i * 11) ++ sub.toList ++ (cellsP os ++ rest).drop (i * 11 + 11)
  rw [h1]
  exact (splice3 _ _ _ _ _ _ h2 h3).symm
/-- The row of a list of one's own, written out. -/
theorem OutP.rowC {lo : Nat} {w : World} {g n c : Nat} {os : List (PD × Value)} (h : OutP lo w (.slice (some ⟨g, 0, none⟩) n c) os) : n = os.length ∧ os.length ≤ c ∧ c ≤ maxLen ∧ lo ≤ g ∧ ∃ rest : List Value, rest.length = (c - os.length) * 11 ∧ w.heap[g]? = some (.cells (cellsP os ++ rest).toArray 38 (0, 0)) := by
  obtain ⟨h1, h2 | ⟨k, cap, cur, e, h3, h4, h5, h6, h7, h8⟩⟩ := h.row
  · cases h2.1
  · simp only [Value.slice.injEq, Option.some.injEq, Addr.mk.injEq] at e
    obtain ⟨⟨rfl, _⟩, rfl, rfl⟩ := e
    refine ⟨rfl, h5, h6, h3, cur.toList.drop (os.length * 11), ?_, ?_⟩
    · rw [List.length_drop, Array.length_toList, h7, ← Nat.sub_mul]
    · rw [← h8, List.take_append_drop, Array.toArray_toList]
      exact h4
set_option maxHeartbeats 400000 in
/-- What is no lens. -/
theorem near2_c (nm : ByteArray) (kd co : Int) (p q : FV) (w : World) :
    Calls Tryz.prog 41 #[.agg #[.string nm, .int .u8 kd, .bool p.b1, .slice p.a1 p.n1 p.c1, .bool p.b2, .slice p.a2 p.n2 p.c2, .bool q.b1, .slice q.a1 q.n1 q.c1, .bool q.b2, .slice q.a2 q.n2 q.c2, .int .i64 co]] w fun e w' => e = .returned (.bool (kd != 2)) ∧ Ext w w' := by
  obtain ⟨wb, hwb⟩ : ∃ wb, wb = w.alloc (.cells #[.string nm, .int .u8 kd, .bool p.b1, .slice p.a1 p.n1 p.c1, .bool p.b2, .slice p.a2 p.n2 p.c2, .bool q.b1, .slice q.a1 q.n1 q.c1, .bool q.b2, .slice q.a2 q.n2 q.c2, .int .i64 co] 38) := ⟨_, rfl⟩
  have hE : Ext w wb := by rw [hwb]; exact (Ext.refl w).al _
  have c1 : wb.cell? ⟨w.heap.size, 1, none⟩ = some (.int .u8 kd) := by rw [hwb]; exact row16_cells (heap_alloc_new _ _) 1
  replace hE := mkHid hE
  replace hwb := mkHid hwb
  rw [hwb.out] at c1
  go_enter Tryz.func41, Tryz.ntmps41
  go_wp2_with fail
  go_ret
  exact ⟨rfl, by rw [← hwb.out]; exact hE.out⟩
/-- Where the first is that is no lens. -/
def firstNo (os : List (PD × Value)) : Option Nat := os.findIdx? fun x => x.1.kd != 2
def IdxR (w0 : World) (os : List (PD × Value)) (t8 : Value) (wr : World) : Prop := ∃ k : Nat, k ≤ os.length ∧ t8 = .int .i64 k ∧ (∀ x ∈ os.take k, x.1.kd = 2) ∧ Ext w0 wr
def idxV (os : List (PD × Value)) : Value := match firstNo os with | some i => .int .i64 i | none => .int .i64 (-1)
set_option maxHeartbeats 1600000 in
theorem index_c (os : List (PD × Value)) (rest : List Value) (g c : Nat) (w : World) (hv : AllV os) (hl : os.length ≤ 64) (hr : w.heap[g]? = some (.cells (cellsP os ++ rest).toArray 38 (0, 0))) :
    Calls Tryz.prog 77 #[.slice (some ⟨g, 0, none⟩) os.length c, .func (.func 41) #[] #[]] w fun e w' => e = .returned (idxV os) ∧ Ext w w' := by
  replace hv := mkHid hv
  replace hr := mkHid hr
  go_enter Tryz.func77, Tryz.ntmps77
  go_wp2_with fail
  have st : IdxR w os (.int .i64 0) w := ⟨0, Nat.zero_le _, rfl, by simp, Ext.refl _⟩
  replace st := mkHid st
  go_loopw [8] (fun t8 wr => IdxR w os t8 wr) (fun i _ => os.length - (intOf i).toNat)
  case atStart => exact st.out
  case round =>
    clear st
    obtain ⟨k, hk, rfl, hall, hE⟩ := hrel
    obtain ⟨w2, rfl⟩ : ∃ w2 : World, w2 = wr := ⟨_, rfl⟩
    by_cases hlt : k < os.length
    · obtain ⟨d, v, hdv⟩ : ∃ d v, os[k] = (d, v) := ⟨_, _, rfl⟩
      obtain ⟨p, q, e0⟩ := hv.out _ (List.getElem_mem hlt)
      rw [hdv] at e0
      have e0' : v = .agg #[.string d.nm, .int .u8 d.kd, .bool p.b1, .slice p.a1 p.n1 p.c1, .bool p.b2, .slice p.a2 p.n2 p.c2, .bool q.b1, .slice q.a1 q.n1 q.c1, .bool q.b2, .slice q.a2 q.n2 q.c2, .int .i64 d.co] := e0
      subst e0'
      have hx := mkHid (row_extract hv.out hlt rest (sub := #[.string d.nm, .int .u8 d.kd, .bool p.b1, .slice p.a1 p.n1 p.c1, .bool p.b2, .slice p.a2 p.n2 p.c2, .bool q.b1, .slice q.a1 q.n1 q.c1, .bool q.b2, .slice q.a2 q.n2 q.c2, .int .i64 d.co]) (by rw [hdv]))
      have hr2 := mkHid (hE.blk hr.out)
      have hlt' : (k : Int) < (os.length : Int) := by omega
      have hN := mkHid (near2_c d.nm d.kd d.co p q w2)
      generalize hB : (d.kd != 2) = B at hN
      replace hB := mkHid hB
      replace hdv := mkHid hdv
      replace hall := mkHid hall
      replace hE := mkHid hE
      clear e0
      have tok : Tok 0 := .mk _
      cases B
      all_goals go_wp2_with (first
        | ((have _t : Tok 0 := tok); clear _t; clear tok; (have tok : Tok 1 := .mk _); refine wpList_load_sub (by rfl) 38 (.tmp 14) rfl g (k * 11) ?zz 38 _ #[.string d.nm, .int .u8 d.kd, .bool p.b1, .slice p.a1 p.n1 p.c1, .bool p.b2, .slice p.a2 p.n2 p.c2, .bool q.b1, .slice q.a1 q.n1 q.c1, .bool q.b2, .slice q.a2 q.n2 q.c2, .int .i64 d.co] (0, 0) _ hr2.out hx.out Tryz.underlying38 rfl (by kernel_rfl) ?_; (case zz => rfl))
        | ((have _t : Tok 1 := tok); clear _t; clear tok; go_at_call 41; refine hN.out.mono ?_; rintro e w3 ⟨rfl, hx3⟩; replace hE := mkHid (hE.out.trans hx3); clear hx3))
      · refine ⟨⟨k + 1, by omega, by go_num, fun x hx => ?_, hE.out⟩, by simp [intOf]; omega⟩
        rw [List.take_succ_eq_append_getElem hlt] at hx
        rcases List.mem_append.1 hx with hx | hx
        · exact hall.out x hx
        · rw [List.mem_singleton] at hx
          rw [hx, hdv.out]
          have := hB.out
          simpa using this
      · go_ret
        have e : firstNo os = some k := by
          unfold firstNo
          rw [List.findIdx?_eq_some_iff_getElem]
          refine ⟨hlt, by rw [hdv.out]; exact hB.out, fun j hj => ?_⟩
          have := hall.out os[j] (by rw [List.mem_take_iff_getElem]; exact ⟨j, by omega, rfl⟩)
          simp [this]
        unfold idxV
        rw [e]
        exact ⟨rfl, hE.out⟩
    · have hk2 : k = os.length := by omega
      subst hk2
      rw [List.take_length] at hall
      replace hall := mkHid hall
      replace hE := mkHid hE
      go_wp2_with fail
      go_ret
      have e : firstNo os = none := by
        unfold firstNo
        rw [List.findIdx?_eq_none_iff]
        intro x hx
        simp [hall.out x hx]
      unfold idxV
      rw [e]
      exact ⟨rfl, hE.out⟩
end Go.Proofs.YtkkfgphcmnhabaaGreatDoor
namespace Go.Proofs.YtkkfgphcmnhabaaGreatDoor
set_option maxRecDepth 100000
open Go Go.RowKit Go.Proofs
/-- A part that reads so. -/
def PartIn (w : World) (v : Value) (r : RD) : Prop := ∃ p q : FV, v = .agg #[.string r.nm, .int .u8 r.kd, .bool p.b1, .slice p.a1 p.n1 p.c1, .bool p.b2, .slice p.a2 p.n2 p.c2, .bool q.b1, .slice q.a1 q.n1 q.c1, .bool q.b2, .slice q.a2 q.n2 q.c2, .int .i64 r.co] ∧ AnyF w (.agg #[.bool p.b1, .slice p.a1 p.n1 p.c1, .bool p.b2, .slice p.a2 p.n2 p.c2]) r.op ∧ AnyF w (.agg #[.bool q.b1, .slice q.a1 q.n1 q.c1, .bool q.b2, .slice q.a2 q.n2 q.c2]) r.oq ∧ r.nm.size ≤ 9223372036854775807
theorem PartIn.ext {w w' : World} {v : Value} {r : RD} (h : PartIn w v r) (e : Ext w w') : PartIn w' v r := by
  obtain ⟨p, q, h0, h1, h2, h3⟩ := h
  exact ⟨p, q, h0, h1.ext e, h2.ext e, h3⟩
structure InD (w : World) (s : Value) (xs : List (RD × Value)) : Prop where
  at' : ∃ a c, s = .slice a xs.length c ∧ xs.length ≤ c ∧ Row w a (cellsV (xs.map (·.2)))
  part : ∀ x ∈ xs, PartIn w x.2 x.1
theorem InD.is {w : World} {s : Value} {xs : List (RD × Value)} (h : InD w s xs) : Is11 (xs.map (·.2)) := fun v hv => by
  obtain ⟨x, hx, rfl⟩ := List.mem_map.1 hv
  obtain ⟨p, q, e, -⟩ := h.part x hx
  exact ⟨_, _, _, p, q, e⟩
theorem InD.ext {w w' : World} {s : Value} {xs : List (RD × Value)} (h : InD w s xs) (e : Ext w w') : InD w' s xs := by
  obtain ⟨⟨a, c, h1, h2, h3⟩, hp⟩ := h
  exact ⟨⟨a, c, h1, h2, h3.ext e⟩, fun x hx => (hp x hx).ext e⟩
theorem row_range {w : World} {a : Option Addr} {vs : List Value} (h : Row w a (cellsV vs)) (his : Is11 vs) {k : Nat} (hk : k < vs.length) : ∃ b o, a = some ⟨b, o, none⟩ ∧ w.rangeAt b (o + k * 11) vs[k].cells.toList := by
  obtain ⟨b, o, ha, hr⟩ := h
  have hl := cellsV_len his
  have hne : cellsV vs ≠ [] := by intro e; rw [e, List.length_nil] at hl; omega
  refine ⟨b, o, ha hne, fun j v hv => ?_⟩
  have hcl : vs[k].cells.toList.length = 11 := by
    obtain ⟨nm, kd, co, p, q, e⟩ := his vs[k] (List.getElem_mem hk)
    rw [e]
    rfl
  have hj : j < 11 := by have := (List.getElem?_eq_some_iff.1 hv).1; omega
  have h1 := hr (k * 11 + j) (by omega)
  have h2 := cellsV_at his hk j hj
  rw [List.getD_eq_getElem?_getD, h2] at h1
  have h3 : vs[k].cells[j]? = some v := by simpa using hv
  rw [h3] at h1
  rw [Nat.add_assoc]
  exact h1
theorem InD.get {w : World} {s : Value} {xs : List (RD × Value)} (h : InD w s xs) {k : Nat} (hk : k < xs.length) : ∃ b o c, s = .slice (some ⟨b, o, none⟩) xs.length c ∧ xs.length ≤ c ∧ w.rangeAt b (o + k * 11) xs[k].2.cells.toList := by
  obtain ⟨a, c, rfl, hc, hr⟩ := h.at'
  obtain ⟨b, o, rfl, h2⟩ := row_range hr h.is (k := k) (by simpa using hk)
  refine ⟨b, o, c, rfl, hc, ?_⟩
  simpa using h2
/-- A part goes in, or it does not: for three reasons. -/
theorem goes_cases (r : RD) : nameB r.nm.data.toList = false ∨ (nameB r.nm.data.toList = true ∧ mayP r.kd r.co r.op r.oq = false) ∨
    (nameB r.nm.data.toList = true ∧ ∃ p q, r.op = some p ∧ r.oq = some q ∧ mayP r.kd r.co (some p) (some q) = true ∧ goesD r = some ⟨r.nm, r.kd, p, q, r.co⟩) := by
  cases h1 : nameB r.nm.data.toList with
  | false => exact .inl rfl
  | true =>
    cases h2 : mayP r.kd r.co r.op r.oq with
    | false => exact .inr (.inl ⟨rfl, rfl⟩)
    | true =>
      refine .inr (.inr ⟨rfl, ?_⟩)
      have hsome : [r.op, r.oq].all Option.isSome = true := by
        cases h3 : [r.op, r.oq].all Option.isSome with
        | true => rfl
        | false =>
          unfold mayP at h2
          rw [mayO_none r.kd h3] at h2
          simp at h2
      simp only [List.all_cons, List.all_nil, Bool.and_true, Bool.and_eq_true] at hsome
      obtain ⟨p, hp⟩ := Option.isSome_iff_exists.1 hsome.1
      obtain ⟨q, hq⟩ := Option.isSome_iff_exists.1 hsome.2
      rw [hp, hq] at h2
      refine ⟨p, q, hp, hq, h2, ?_⟩
      unfold goesD
      rw [hp, hq]
      simp [h1, h2]
theorem put_no (r : RD) (p q : FV) (w : World) (g M : Nat) (es : List (PD × Value)) (h : Cat w g M es) (h1 : AnyF w (.agg #[.bool p.b1, .slice p.a1 p.n1 p.c1, .bool p.b2, .slice p.a2 p.n2 p.c2]) r.op) (h2 : AnyF w (.agg #[.bool q.b1, .slice q.a1 q.n1 q.c1, .bool q.b2, .slice q.a2 q.n2 q.c2]) r.oq) (hs : r.nm.size ≤ 9223372036854775807)
    (hr : ∀ d, goesD r = some d → (findP d.nm es).isSome = true ∨ 64 ≤ es.length) :
    Calls Tryz.prog 14 #[.pointer (some ⟨g, 0, none⟩), .agg #[.string r.nm, .int .u8 r.kd, .bool p.b1, .slice p.a1 p.n1 p.c1, .bool p.b2, .slice p.a2 p.n2 p.c2, .bool q.b1, .slice q.a1 q.n1 q.c1, .bool q.b2, .slice q.a2 q.n2 q.c2, .int .i64 r.co]] w fun e w' => ∃ c : Int, e = .returned (.int .i64 c) ∧ c ≠ 0 ∧ Ext w w' := by
  rcases goes_cases r with hn | ⟨hn, hm⟩ | ⟨hn, x, y, hx, hy, hm, hg⟩
  · refine (put_name p q r.nm r.kd r.co r.op r.oq w g M es h h1 h2 hs hn).mono ?_
    rintro e w' ⟨rfl, hE⟩
    exact ⟨9, rfl, by decide, hE⟩
  · refine (put_arg p q r.nm r.kd r.co r.op r.oq w g M es h h1 h2 hs hn hm).mono ?_
    rintro e w' ⟨rfl, hE⟩
    exact ⟨1, rfl, by decide, hE⟩
  · have hr := hr _ hg
    cases hf : findP r.nm es with
    | some z =>
      refine (put_twice p q r.nm r.kd r.co r.op r.oq w g M es h h1 h2 hs hn (by rw [hx, hy]; exact hm) z hf).mono ?_
      rintro e w' ⟨rfl, hE⟩
      exact ⟨10, rfl, by decide, hE⟩
    | none =>
      have hl : 64 ≤ es.length := by
        rcases hr with hr | hr
        · simp only at hr
          rw [hf] at hr
          cases hr
        · exact hr
      refine (put_full p q r.nm r.kd r.co r.op r.oq w g M es h h1 h2 hs hn (by rw [hx, hy]; exact hm) hf hl).mono ?_
      rintro e w' ⟨rfl, hE⟩
      exact ⟨12, rfl, by decide, hE⟩
/-- What goes in may be, and reads so. -/
theorem goes_part {r : RD} {d : PD} {p q : FV} {w : World} (h1 : AnyF w (.agg #[.bool p.b1, .slice p.a1 p.n1 p.c1, .bool p.b2, .slice p.a2 p.n2 p.c2]) r.op) (h2 : AnyF w (.agg #[.bool q.b1, .slice q.a1 q.n1 q.c1, .bool q.b2, .slice q.a2 q.n2 q.c2]) r.oq) (hg : goesD r = some d) :
    d.nm = r.nm ∧ d.kd = r.kd ∧ d.co = r.co ∧ okPD d ∧ FracR w (.agg #[.bool p.b1, .slice p.a1 p.n1 p.c1, .bool p.b2, .slice p.a2 p.n2 p.c2]) d.p ∧ FracR w (.agg #[.bool q.b1, .slice q.a1 q.n1 q.c1, .bool q.b2, .slice q.a2 q.n2 q.c2]) d.q := by
  unfold goesD at hg
  split at hg
  · rename_i x y hx hy
    split at hg
    · rename_i hc
      cases hg
      rw [hx] at h1
      rw [hy] at h2
      obtain ⟨f1, n1⟩ := h1.frac
      obtain ⟨f2, n2⟩ := h2.frac
      rw [Bool.and_eq_true] at hc
      exact ⟨rfl, rfl, rfl, ⟨n1, n2, hc.1, hc.2⟩, f1, f2⟩
    · cases hg
  · cases hg
theorem put_in (r : RD) (p q : FV) (w : World) (g M : Nat) (es : List (PD × Value)) (h : Cat w g M es) (h1 : AnyF w (.agg #[.bool p.b1, .slice p.a1 p.n1 p.c1, .bool p.b2, .slice p.a2 p.n2 p.c2]) r.op) (h2 : AnyF w (.agg #[.bool q.b1, .slice q.a1 q.n1 q.c1, .bool q.b2, .slice q.a2 q.n2 q.c2]) r.oq) (hs : r.nm.size ≤ 9223372036854775807)
    (d : PD) (hg : goesD r = some d) (hf : findP d.nm es = none) (hl : es.length < 64) :
    Calls Tryz.prog 14 #[.pointer (some ⟨g, 0, none⟩), .agg #[.string r.nm, .int .u8 r.kd, .bool p.b1, .slice p.a1 p.n1 p.c1, .bool p.b2, .slice p.a2 p.n2 p.c2, .bool q.b1, .slice q.a1 q.n1 q.c1, .bool q.b2, .slice q.a2 q.n2 q.c2, .int .i64 r.co]] w fun e w' => e = .returned (.int .i64 0) ∧ ∃ v, PartK w.heap.size w' v d ∧ Cat w' g M (insP (d, v) es) ∧ Chg w w' (· = M) := by
  obtain ⟨e1, e2, e3, hok, f1, f2⟩ := goes_part h1 h2 hg
  have := put_ok p q d w g M es h f1 f2 hok (by rw [e1]; exact hs) hf hl
  rw [e1, e2, e3] at this
  exact this
theorem owns11_lt {w : World} {lo E n : Nat} {v : Value} {xs : List Value} (h : w.ownsRow lo E 11 v n xs) : ∀ g, v.ownBlock = some g → lo ≤ g ∧ g < w.heap.size := by
  intro g hg
  rcases h.2 with ⟨rfl, _⟩ | ⟨g', cap, cur, rfl, a2, a3, _⟩
  · cases hg
  · cases hg
    exact ⟨a2, (Array.getElem?_eq_some_iff.1 a3).1⟩
/-- The parts that went in, in a row of their own; the catalogue's blocks are others. -/
structure Went (w0 w : World) (g M : Nat) (es : List (PD × Value)) (s : Value) (ins : List (PD × Value)) : Prop where
  cat : Cat w g M es
  row : w.ownsRow w0.heap.size 38 11 s ins.length (cellsP ins)
  part : ∀ x ∈ ins, PartR w0 x.2 x.1 ∧ okPD x.1
  perm : (es.map (·.1)).Perm (ins.map (·.1))
  own : ∀ k, s.ownBlock = some k → ¬ catB g M es k
  ext : Ext w0 w
  lo : w0.heap.size ≤ g ∧ w0.heap.size ≤ M
theorem Went.same {w0 w w' : World} {g M : Nat} {es : List (PD × Value)} {s : Value} {ins : List (PD × Value)} (h : Went w0 w g M es s ins) (e : Ext w w') : Went w0 w' g M es s ins :=
  ⟨h.cat.ext e, ownsRow_ext h.row e, h.part, h.perm, h.own, h.ext.trans e, h.lo⟩
theorem Went.put {w0 w w3 w4 : World} {g M : Nat} {es : List (PD × Value)} {s s' : Value} {ins : List (PD × Value)} {d : PD} {v u : Value} {o : Obj} (h : Went w0 w g M es s ins)
    (hk : PartK w.heap.size w3 v d) (hc : Cat w3 g M (insP (d, v) es)) (ht : Chg w w3 (· = M)) (hu : PartR w0 u d) (hok : okPD d)
    (hown : w4.ownsRow w0.heap.size 38 11 s' (ins.length + 1) (cellsP ins ++ u.cells.toList)) (hg : (w3.alloc o).grownBy w4 s.ownBlock) (ha : s'.ownBlock = s.ownBlock ∨ s'.ownBlock = some (w3.alloc o).heap.size) :
    Went w0 w4 g M (insP (d, v) es) s' (ins ++ [(d, u)]) := by
  have hw3 : Ext w0 w3 := ht.ext w0 h.ext (fun k hk e => by have := h.lo.2; omega)
  have hblk : ∀ k, s.ownBlock = some k → w0.heap.size ≤ k ∧ k < w.heap.size := owns11_lt h.row
  have hcb : ∀ k, catB g M (insP (d, v) es) k → catB g M es k ∨ w.heap.size ≤ k := by
    rintro k (hk' | hk' | ⟨x, hx, hk'⟩)
    · exact .inl (.inl hk')
    · exact .inl (.inr (.inl hk'))
    · rcases mem_insP.1 hx with rfl | hx
      · exact .inr (hk.span k hk').1
      · exact .inl (.inr (.inr ⟨x, hx, hk'⟩))
  have hno : ∀ k, s.ownBlock = some k → ¬ catB g M (insP (d, v) es) k := by
    intro k hk' hb
    rcases hcb k hb with hb | hb
    · exact h.own k hk' hb
    · have := (hblk k hk').2
      omega
  have hsz : w3.heap.size < (w3.alloc o).heap.size := by simp
  have hcat : Cat w4 g M (insP (d, v) es) := hc.near (Nat.le_trans (Nat.le_of_lt hsz) hg.size) fun k hb => by
    have hlt := hc.lt k hb
    rw [hg.block k (by omega) (fun e => hno k e.symm hb), heap_alloc_old _ _ hlt]
  refine ⟨hcat, ?_, fun x hx => ?_, ?_, fun k e hb => ?_, (hw3.al o).gr hg (fun k e => (hblk k e).1), h.lo⟩
  · have e : cellsP (ins ++ [(d, u)]) = cellsP ins ++ u.cells.toList := by rw [cellsP_append]; simp [cellsP]
    rw [e, List.length_append, List.length_singleton]
    exact hown
  · rcases List.mem_append.1 hx with hx | hx
    · exact h.part x hx
    · rw [List.mem_singleton] at hx
      subst hx
      exact ⟨hu, hok⟩
  · rw [List.map_append]
    exact ins_perm h.perm d v
  · rcases ha with ha | ha
    · exact hno k (by rw [← ha]; exact e) hb
    · rw [ha] at e
      cases e
      have := hc.lt _ hb
      omega
/-- The loop over the list. -/
def FillR (w0 : World) (g M : Nat) (xs : List (RD × Value)) (t5 t6 : Value) (wr : World) : Prop :=
  ∃ (k : Nat) (es ins : List (PD × Value)), k ≤ xs.length ∧ k ≤ 200 ∧ t6 = .int .i64 k ∧ Went w0 wr g M es t5 ins ∧ ins.map (·.1) = fillD ((xs.take k).map (·.1))
def FillQ (w0 : World) (xs : List (RD × Value)) (e : Ending) (w' : World) : Prop :=
  ∃ (g M : Nat) (es ins : List (PD × Value)) (s : Value), e = .returned (.tuple #[.pointer (some ⟨g, 0, none⟩), s]) ∧ Went w0 w' g M es s ins ∧ ins.map (·.1) = fillD ((xs.take 200).map (·.1))
theorem take_snoc {xs : List (RD × Value)} {k : Nat} (hk : k < xs.length) : (xs.take (k + 1)).map (·.1) = (xs.take k).map (·.1) ++ [xs[k].1] := by
  rw [List.take_succ_eq_append_getElem hk, List.map_append]
  rfl
set_option maxHeartbeats 3200000 in
theorem filled_c (s : Value) (xs : List (RD × Value)) (w : World) (h : InD w s xs) (hlen : xs.length ≤ 1099511627776) :
    Calls Tryz.prog 7 #[s] w (FillQ w xs) := by
  obtain ⟨i0, hi, hz0, hz1, hz2⟩ := info_parts infoPart
  have hN := mkHid (new_c w)
  obtain ⟨a, c, rfl, hcc, hrow⟩ := h.at'
  have hI := mkHid (fun W (e : Ext w W) => h.ext e)
  have hD := mkHid h
  clear h hrow
  go_enter Tryz.func7, Tryz.ntmps7
  have tok : Tok 0 := .mk _
  go_wp2_with ((have _t : Tok 0 := tok); clear _t; clear tok; (have tok : Tok 1 := .mk _); go_at_call 21; refine hN.out.mono ?_; rintro e w1 ⟨g, M, rfl, hcat, hE1, hg, hM⟩; replace hcat := mkHid hcat; replace hE1 := mkHid hE1)
  clear tok hN
  have st : FillR w g M xs (.slice none 0 0) (.int .i64 0) w1 := ⟨0, [], [], Nat.zero_le _, Nat.zero_le _, rfl, ⟨hcat.out, World.ownsRow_nil _ _ _ _, (fun x hx => by cases hx), List.Perm.refl _, (fun k e => by cases e), hE1.out, hg, hM⟩, rfl⟩
  replace st := mkHid st
  clear hcat hE1 hg hM
  go_loopw [5, 6] (fun t5 t6 wr => FillR w g M xs t5 t6 wr) (fun _ t6 _ => xs.length - (intOf t6).toNat)
  case atStart => exact st.out
  case round =>
    clear st
    obtain ⟨k, es, ins, hk, hk2, rfl, hW, hmap⟩ := hrel
    obtain ⟨w2, rfl⟩ : ∃ w2 : World, w2 = wr := ⟨_, rfl⟩
    by_cases hlt : k < xs.length
    · have hlt' : (k : Int) < (xs.length : Int) := by omega
      by_cases hlt2 : k < 200
      · have hlt2' : (k : Int) < 200 := by omega
        have hI2 := hI.out w2 hW.ext
        obtain ⟨b, o, c', e1, -, hr⟩ := hD.out.get hlt
        simp only [Value.slice.injEq, true_and] at e1
        obtain ⟨rfl, rfl⟩ := e1
        have hxm : xs[k] ∈ xs := List.getElem_mem hlt
        have hmapk := take_snoc hlt
        obtain ⟨r, u, hru⟩ : ∃ r u, xs[k] = (r, u) := ⟨_, _, rfl⟩
        rw [hru] at hr hxm hmapk
        have hpt : PartIn w2 u r := hI2.part _ hxm
        have hpt' : PartIn w u r := hD.out.part _ hxm
        obtain ⟨p, q, e0, h1, h2, hs⟩ := hpt
        obtain ⟨p', q', e0', h1', h2', -⟩ := hpt'
        subst e0
        replace hmapk : (xs.take (k + 1)).map (·.1) = (xs.take k).map (·.1) ++ [r] := hmapk
        replace hr : w.rangeAt b (o + k * 11) [.string r.nm, .int .u8 r.kd, .bool p.b1, .slice p.a1 p.n1 p.c1, .bool p.b2, .slice p.a2 p.n2 p.c2, .bool q.b1, .slice q.a1 q.n1 q.c1, .bool q.b2, .slice q.a2 q.n2 q.c2, .int .i64 r.co] := hr
        have hr2 := mkHid (rangeAt_ext hr hW.ext)
        have hgd : ∀ d, goesD r = some d → okPD d ∧ PartR w (.agg #[.string r.nm, .int .u8 r.kd, .bool p.b1, .slice p.a1 p.n1 p.c1, .bool p.b2, .slice p.a2 p.n2 p.c2, .bool q.b1, .slice q.a1 q.n1 q.c1, .bool q.b2, .slice q.a2 q.n2 q.c2, .int .i64 r.co]) d := by
          intro d hg
          obtain ⟨y1, y2, y3, y4, y5, y6⟩ := goes_part h1' h2' hg
          refine ⟨y4, ?_⟩
          rw [e0', ← y1, ← y2, ← y3]
          exact PartR.mk y5 y6
        clear hI2 e0' h1' h2' hxm hru
        have hfl : (fillD ((xs.take (k + 1)).map (·.1))) = stepIn (ins.map (·.1)) r := by
          rw [hmapk, fillD_snoc, hmap]
        by_cases hno : ∀ d, goesD r = some d → (findP d.nm es).isSome = true ∨ 64 ≤ es.length
        · have hP := mkHid (put_no r p q w2 g M es hW.cat h1 h2 hs hno)
          have hstay : stepIn (ins.map (·.1)) r = ins.map (·.1) := by
            unfold stepIn
            split
            · rfl
            · rename_i d hd
              have hx := hno d hd
              rw [find_perm hW.perm d] at hx
              rcases hx with hx | hx
              · rw [if_pos hx]
              · have := hW.perm.length_eq
                rw [List.length_map, List.length_map] at this
                split
                · rfl
                · rw [if_pos (by rw [List.length_map]; omega)]
          have hnew := mkHid (fun (w3 : World) (v6 : Value) (e : Ext w2 w3) (hv : v6 = .int .i64 ((k + 1 : Nat) : Int)) => (show FillR w g M xs u5 v6 w3 from ⟨k + 1, es, ins, by omega, by omega, hv, hW.same e, by rw [hfl, hstay]⟩))
          replace hr := mkHid hr
          clear hW hmap hgd hno hfl hstay hmapk h1 h2 hs
          have tok : Tok 2 := .mk _
          go_wp2_with (first
            | ((have _t : Tok 2 := tok); clear _t; clear tok; (have tok : Tok 3 := .mk _); refine wpList_load_mid rfl 38 (.tmp 21) rfl b (o + k * 11) rfl [.string r.nm, .int .u8 r.kd, .bool p.b1, .slice p.a1 p.n1 p.c1, .bool p.b2, .slice p.a2 p.n2 p.c2, .bool q.b1, .slice q.a1 q.n1 q.c1, .bool q.b2, .slice q.a2 q.n2 q.c2, .int .i64 r.co] _ hr2.out Tryz.underlying38 rfl (by kernel_rfl) ?_)
            | ((have _t : Tok 3 := tok); clear _t; clear tok; (have tok : Tok 4 := .mk _); go_at_call 14; refine hP.out.mono ?_; rintro e w3 ⟨cd, rfl, hne, hE3⟩; replace hE3 := mkHid hE3))
          refine ⟨hnew.out _ _ hE3.out (by go_num), by simp [intOf]; omega⟩
        · obtain ⟨d, hg, hx⟩ : ∃ d, goesD r = some d ∧ ¬ ((findP d.nm es).isSome = true ∨ 64 ≤ es.length) := by
            refine Classical.byContradiction fun hcon => hno fun d hd => Classical.byContradiction fun hcc => hcon ⟨d, hd, hcc⟩
          have hf : findP d.nm es = none := by
            cases hf : findP d.nm es with
            | none => rfl
            | some z => exact absurd (.inl (by rw [hf]; rfl)) hx
          have hl : es.length < 64 := Nat.lt_of_not_le fun e => hx (.inr e)
          have hP := mkHid (put_in r p q w2 g M es hW.cat h1 h2 hs d hg hf hl)
          obtain ⟨hok, hpr⟩ := hgd d hg
          have hgo : stepIn (ins.map (·.1)) r = ins.map (·.1) ++ [d] := by
            unfold stepIn
            rw [hg]
            have hlen2 := hW.perm.length_eq
            rw [List.length_map, List.length_map] at hlen2
            have hany : (ins.map (·.1)).any (sameN d) = false := by rw [← find_perm hW.perm d, hf]; rfl
            simp only [hany, Bool.false_eq_true, if_false]
            rw [if_neg (by rw [List.length_map]; omega)]
          have hil : ins.length < 64 := by
            have hlen2 := hW.perm.length_eq
            rw [List.length_map, List.length_map] at hlen2
            omega
          rw [hgo] at hfl
          replace hr := mkHid hr
          replace hW := mkHid hW
          replace hfl := mkHid hfl
          replace hpr := mkHid hpr
          replace hok := mkHid hok
          clear hmap hgd hno hgo hmapk h1 h2 hs hf hl hx hg
          have tok : Tok 5 := .mk _
          go_wp2_with (first
            | ((have _t : Tok 5 := tok); clear _t; clear tok; (have tok : Tok 6 := .mk _); refine wpList_load_mid rfl 38 (.tmp 21) rfl b (o + k * 11) rfl [.string r.nm, .int .u8 r.kd, .bool p.b1, .slice p.a1 p.n1 p.c1, .bool p.b2, .slice p.a2 p.n2 p.c2, .bool q.b1, .slice q.a1 q.n1 q.c1, .bool q.b2, .slice q.a2 q.n2 q.c2, .int .i64 r.co] _ hr2.out Tryz.underlying38 rfl (by kernel_rfl) ?_)
            | ((have _t : Tok 6 := tok); clear _t; clear tok; (have tok : Tok 7 := .mk _); go_at_call 14; refine hP.out.mono ?_; rintro e w3 ⟨rfl, v3, hk3, hc3, ht3⟩; (have hr3 := mkHid (rangeAt_ext hr.out (ht3.ext w hW.out.ext (fun k' hk' e' => by have := hW.out.lo.2; omega)))); replace hk3 := mkHid hk3; replace hc3 := mkHid hc3; replace ht3 := mkHid ht3)
            | ((have _t : Tok 7 := tok); clear _t; clear tok; (have tok : Tok 8 := .mk _); refine wpList_load_mid rfl 38 (.tmp 28) rfl b (o + k * 11) rfl [.string r.nm, .int .u8 r.kd, .bool p.b1, .slice p.a1 p.n1 p.c1, .bool p.b2, .slice p.a2 p.n2 p.c2, .bool q.b1, .slice q.a1 q.n1 q.c1, .bool q.b2, .slice q.a2 q.n2 q.c2, .int .i64 r.co] _ hr3.out Tryz.underlying38 rfl (by kernel_rfl) ?_)
            | ((have _t : Tok 8 := tok); clear _t; clear tok; (have tok : Tok 9 := .mk _); at_builtin; (have X := ht3.out.row hW.out.row (fun k' e e2 => hW.out.own k' e (.inr (.inl e2)))); (have Z := X.alloc (.cells #[.string r.nm, .int .u8 r.kd, .bool p.b1, .slice p.a1 p.n1 p.c1, .bool p.b2, .slice p.a2 p.n2 p.c2, .bool q.b1, .slice q.a1 q.n1 q.c1, .bool q.b2, .slice q.a2 q.n2 q.c2, .int .i64 r.co] 38)); (have U := Tryz.underlying22); refine wpList_append_own_at _ ?ya ?yb ?yc 22 ?yd w.heap.size 38 i0 zeroPart 11 160 U hi hz0 hz1 hz2 ?ye ?yf u5 ins.length (cellsP ins) ?yh Z ⟨w3.heap.size, 0, none⟩ 1 1 [.string r.nm, .int .u8 r.kd, .bool p.b1, .slice p.a1 p.n1 p.c1, .bool p.b2, .slice p.a2 p.n2 p.c2, .bool q.b1, .slice q.a1 q.n1 q.c1, .bool q.b2, .slice q.a2 q.n2 q.c2, .int .i64 r.co] ?yi ?yj ?zc1 ?zc2 ?zc3 ?zc4 ?zc5 ?_; (case ya => rfl); (case yd => rfl); (case ye => rfl); (case yf => decide); (case yh => rfl); (case yi => rfl); (case yj => rfl); (case zc1 => exact news_cells w3 _ _); (case zc2 => exact part_one ⟨r.nm, r.kd, 0, 0, r.co⟩ p q); (case zc3 => unfold maxLen; omega); (case zc4 => omega); (case zc5 => have := hW.out.ext.size; have := ht3.out.size; rw [World.size_alloc]; omega); intro v4 w4 hown4 hgrow4 _ hloc4; clear X Z U; replace hown4 := mkHid hown4; replace hgrow4 := mkHid hgrow4; replace hloc4 := mkHid hloc4))
          have hW4 := hW.out.put hk3.out hc3.out ht3.out hpr.out hok.out hown4.out hgrow4.out hloc4.out
          refine ⟨⟨k + 1, _, _, by omega, by omega, by go_num, hW4, by rw [hfl.out, List.map_append]; rfl⟩, by simp [intOf]; omega⟩
      · have hk3 : k = 200 := by omega
        subst hk3
        have hq : FillQ w xs (.returned (.tuple #[.pointer (some ⟨g, 0, none⟩), u5])) w2 := ⟨g, M, es, ins, u5, rfl, hW, hmap⟩
        replace hq := mkHid hq
        clear hW hmap
        go_wp2_with fail
        go_ret2
        exact hq.out
    · have hk3 : k = xs.length := by omega
      subst hk3
      have hq : FillQ w xs (.returned (.tuple #[.pointer (some ⟨g, 0, none⟩), u5])) w2 := ⟨g, M, es, ins, u5, rfl, hW, by rw [hmap, List.take_length, List.take_of_length_le (by omega)]⟩
      replace hq := mkHid hq
      clear hW hmap
      go_wp2_with fail
      go_ret2
      exact hq.out
end Go.Proofs.YtkkfgphcmnhabaaGreatDoor
namespace Go.Proofs.YtkkfgphcmnhabaaGreatDoor
set_option maxRecDepth 100000
open Go Go.RowKit Go.Proofs
theorem zero_len (n : Nat) : (Builtin.zeroCells zeroPart.cells n).toList.length = n * 11 := by
  simp [Builtin.zeroCells, Value.cells]
theorem zero_one (n : Nat) : ∀ v ∈ (Builtin.zeroCells zeroPart.cells n).toList, v.oneCell' = true := by
  intro v hv
  unfold Builtin.zeroCells at hv
  simp only [Array.toList_map, List.mem_map] at hv
  obtain ⟨i, -, rfl⟩ := hv
  have h : ∀ k, k < 11 → (zeroPart.cells[k]!).oneCell' = true := by
    intro k hk
    have : k = 0 ∨ k = 1 ∨ k = 2 ∨ k = 3 ∨ k = 4 ∨ k = 5 ∨ k = 6 ∨ k = 7 ∨ k = 8 ∨ k = 9 ∨ k = 10 := by omega
    rcases this with rfl | rfl | rfl | rfl | rfl | rfl | rfl | rfl | rfl | rfl | rfl <;> rfl
  exact h _ (Nat.mod_lt _ (by decide))
theorem run_clear_gen {P : Program} (w : World) (ty t e : TypeId) (z : Value) (ht : P.underlying t = some (.slice e)) (hz : (zeroValue e).run P w = .ok z w) (g k n c L : Nat) (cur : Array Value) (hg : w.heap[g]? = some (.cells cur e (0, 0))) (hn : 0 < n) (hL : (Builtin.zeroCells z.cells n).toList.length = L)
    (h1 : ∀ v ∈ (Builtin.zeroCells z.cells n).toList, v.oneCell' = true) (hk : k + L ≤ cur.size) :
    (Builtin.clear_ #[t] ty #[.slice (some ⟨g, k, none⟩) n c]).run P w = .ok (.tuple #[]) (w.setRow g (cur.toList.take k ++ (Builtin.zeroCells z.cells n).toList ++ cur.toList.drop (k + L)).toArray) := by
  have hst := run_storeCells_at (P := P) g k e (Builtin.zeroCells z.cells n).toList 0 cur w hg (by rw [hL]; omega) h1
  rw [hL] at hst
  simp only [Nat.add_zero] at hst
  obtain ⟨m, rfl⟩ : ∃ m, n = m + 1 := ⟨n - 1, by omega⟩
  simp [Builtin.clear_, run_underlying ht, hz, hst]
theorem run_clear_row (w : World) (ty : TypeId) (g k n c : Nat) (cur : Array Value) (hg : w.heap[g]? = some (.cells cur 38 (0, 0))) (hn : 0 < n) (hk : k + n * 11 ≤ cur.size) :
    (Builtin.clear_ #[22] ty #[.slice (some ⟨g, k, none⟩) n c]).run Tryz.prog w = .ok (.tuple #[]) (w.setRow g (cur.toList.take k ++ (Builtin.zeroCells zeroPart.cells n).toList ++ cur.toList.drop (k + n * 11)).toArray) :=
  run_clear_gen w ty _ _ zeroPart Tryz.underlying22 (zero_part w) g k n c _ cur hg hn (zero_len n) (zero_one n) hk
def lensX (x : PD × Value) : Bool := x.1.kd == 2
def DelR (W0 : World) (g : Nat) (rest : List Value) (os : List (PD × Value)) (t5 t6 : Value) (wr : World) : Prop :=
  ∃ (i j : Nat) (os' : List (PD × Value)), i < j ∧ j ≤ os.length ∧ t5 = .int .i64 i ∧ t6 = .int .i64 j ∧ os'.length = os.length ∧ os'.take i = (os.take j).filter lensX ∧ os'.drop j = os.drop j ∧ (∀ x ∈ os', x ∈ os) ∧
    wr.heap[g]? = some (.cells (cellsP os' ++ rest).toArray 38 (0, 0)) ∧ Chg W0 wr (· = g)
def DelQ (lo : Nat) (w : World) (s : Value) (os : List (PD × Value)) (e : Ending) (w' : World) : Prop := ∃ s', e = .returned s' ∧ OutP lo w' s' (os.filter lensX) ∧ Chg w w' (fun k => s.ownBlock = some k)
theorem first_take {os : List (PD × Value)} {i : Nat} (h : firstNo os = some i) : i < os.length ∧ os.take i = (os.take (i + 1)).filter lensX := by
  unfold firstNo at h
  rw [List.findIdx?_eq_some_iff_getElem] at h
  obtain ⟨hi, h1, h2⟩ := h
  refine ⟨hi, ?_⟩
  have h0 : lensX os[i] = false := by
    unfold lensX
    simpa [bne] using h1
  rw [List.take_succ_eq_append_getElem hi, List.filter_append, List.filter_eq_self.2 ?_, List.filter_cons_of_neg (by rw [h0]; simp), List.filter_nil, List.append_nil]
  · intro x hx
    rw [List.mem_take_iff_getElem] at hx
    obtain ⟨j, hj, rfl⟩ := hx
    have := h2 j (by omega)
    unfold lensX
    simpa [bne] using this
theorem first_none {os : List (PD × Value)} (h : firstNo os = none) : os.filter lensX = os := by
  unfold firstNo at h
  rw [List.findIdx?_eq_none_iff] at h
  rw [List.filter_eq_self]
  intro x hx
  have := h x hx
  unfold lensX
  simpa [bne] using this
set_option maxHeartbeats 1600000 in
theorem delete_none (lo : Nat) (w : World) (s : Value) (os : List (PD × Value)) (h : OutP lo w s os) (hl : os.length ≤ 64) (hf : firstNo os = none) :
    Calls Tryz.prog 40 #[s, .func (.func 41) #[] #[]] w (DelQ lo w s os) := by
  have hI : Calls Tryz.prog 77 #[s, .func (.func 41) #[] #[]] w fun e w' => e = .returned (.int .i64 (-1)) ∧ Ext w w' := by
    rcases h.row.2 with ⟨rfl, he⟩ | ⟨g, cap, cur, e, -⟩
    · go_enter Tryz.func77, Tryz.ntmps77
      go_wp2_with fail
      refine wp_loop_rounds 1 ?_
      rw [rounds_succ]
      go_wp2_with fail
      go_ret
      exact ⟨rfl, Ext.refl _⟩
    · subst e
      obtain ⟨-, -, -, -, rest, -, hr⟩ := h.rowC
      have := index_c os rest g cap w h.allV hl hr
      unfold idxV at this
      rw [hf] at this
      exact this
  replace hI := mkHid hI
  replace h := mkHid h
  have hf := mkHid (first_none hf)
  go_enter Tryz.func40, Tryz.ntmps40
  go_wp2_with (go_at_call 77; refine hI.out.mono ?_; rintro e w' ⟨rfl, hE⟩; replace hE := mkHid hE)
  go_ret
  exact ⟨s, rfl, by rw [hf.out]; exact h.out.ext hE.out, Chg.of_ext hE.out _⟩
theorem blksP_filter (f : PD × Value → Bool) : ∀ os : List (PD × Value), (blksP (os.filter f)).Sublist (blksP os)
  | [] => List.Sublist.refl _
  | x :: r => by
    have e : blksP (x :: r) = Aloof.blks x.2 ++ blksP r := rfl
    by_cases h : f x = true
    · rw [List.filter_cons_of_pos h, e]
      exact (List.Sublist.refl (Aloof.blks x.2)).append (blksP_filter f r)
    · rw [List.filter_cons_of_neg h, e]
      exact (blksP_filter f r).trans (List.sublist_append_right _ _)
theorem Chg.set (w : World) (g : Nat) (cs : Array Value) : Chg w (w.setRow g cs) (· = g) :=
  ⟨rfl, rfl, rfl, by simp, fun k _ hk => setRow_other _ _ _ _ hk⟩
theorem FV.store_one (d : PD) (p q : FV) : (#[.string d.nm, .int .u8 d.kd, .bool p.b1, .slice p.a1 p.n1 p.c1, .bool p.b2, .slice p.a2 p.n2 p.c2, .bool q.b1, .slice q.a1 q.n1 q.c1, .bool q.b2, .slice q.a2 q.n2 q.c2, .int .i64 d.co] : Array Value).all (·.oneCell') = true :=
  Array.all_eq_true_iff_forall_mem.2 fun v hv => part_one d p q v (by simpa using hv)
set_option maxHeartbeats 3200000 in
theorem delete_some (lo : Nat) (w : World) (g n c : Nat) (os : List (PD × Value)) (h : OutP lo w (.slice (some ⟨g, 0, none⟩) n c) os) (hl : os.length ≤ 64) (i : Nat) (hf : firstNo os = some i) :
    Calls Tryz.prog 40 #[.slice (some ⟨g, 0, none⟩) n c, .func (.func 41) #[] #[]] w (DelQ lo w (.slice (some ⟨g, 0, none⟩) n c) os) := by
  obtain ⟨hn, hnc, hcm, hlg, rest, hrl, hr⟩ := h.rowC
  subst hn
  have hI := index_c os rest g c w h.allV hl hr
  unfold idxV at hI
  rw [hf] at hI
  replace hI : Calls Tryz.prog 77 #[.slice (some ⟨g, 0, none⟩) os.length c, .func (.func 41) #[] #[]] w fun e w' => e = .returned (.int .i64 i) ∧ Ext w w' := hI
  obtain ⟨hi, hft⟩ := first_take hf
  have hgl : g < w.heap.size := (Array.getElem?_eq_some_iff.1 hr).1
  replace hI := mkHid hI
  replace hr := mkHid hr
  replace hft := mkHid hft
  replace hrl := mkHid hrl
  replace hcm := mkHid hcm
  have hv := mkHid h.allV
  replace h := mkHid h
  have h1 : (i : Int) + 1 ≤ 64 := by omega
  clear hf
  go_enter Tryz.func40, Tryz.ntmps40
  go_wp2_with (go_at_call 77; refine hI.out.mono ?_; rintro e w1 ⟨rfl, hE⟩; replace hE := mkHid hE)
  have st : DelR w g rest os (.int .i64 i) (.int .i64 ((i : Int) + 1)) w1 := ⟨i, i + 1, os, by omega, by omega, rfl, by go_num, rfl, hft.out, rfl, fun _ h => h, hE.out.blk hr.out, Chg.of_ext hE.out _⟩
  replace st := mkHid st
  clear h1 hft hE hI
  go_loopw [5, 6] (fun t5 t6 wr => DelR w g rest os t5 t6 wr) (fun _ j _ => os.length - (intOf j).toNat)
  case atStart => exact st.out
  case round =>
    clear st
    obtain ⟨y, j, os', hij, hj, rfl, rfl, hlen, htk, hdr, hsub, hrow, hch⟩ := hrel
    obtain ⟨w2, rfl⟩ : ∃ w2 : World, w2 = wr := ⟨_, rfl⟩
    have hv' : AllV os' := fun x hx => hv.out x (hsub x hx)
    by_cases hlt : j < os.length
    · have hlt' : j < os'.length := by omega
      obtain ⟨d, v, hdv⟩ : ∃ d v, os'[j] = (d, v) := ⟨_, _, rfl⟩
      have hmem : (d, v) ∈ os' := by rw [← hdv]; exact List.getElem_mem hlt'
      obtain ⟨p, q, e0⟩ := hv' _ hmem
      have e0' : v = .agg #[.string d.nm, .int .u8 d.kd, .bool p.b1, .slice p.a1 p.n1 p.c1, .bool p.b2, .slice p.a2 p.n2 p.c2, .bool q.b1, .slice q.a1 q.n1 q.c1, .bool q.b2, .slice q.a2 q.n2 q.c2, .int .i64 d.co] := e0
      subst e0'
      have hdo : os[j] = (d, .agg #[.string d.nm, .int .u8 d.kd, .bool p.b1, .slice p.a1 p.n1 p.c1, .bool p.b2, .slice p.a2 p.n2 p.c2, .bool q.b1, .slice q.a1 q.n1 q.c1, .bool q.b2, .slice q.a2 q.n2 q.c2, .int .i64 d.co]) := by
        rw [← hdv]
        have a := List.drop_eq_getElem_cons hlt
        have b := List.drop_eq_getElem_cons hlt'
        rw [a, b] at hdr
        exact (List.cons.inj hdr).1.symm
      have hx := mkHid (row_extract hv' hlt' rest (sub := #[.string d.nm, .int .u8 d.kd, .bool p.b1, .slice p.a1 p.n1 p.c1, .bool p.b2, .slice p.a2 p.n2 p.c2, .bool q.b1, .slice q.a1 q.n1 q.c1, .bool q.b2, .slice q.a2 q.n2 q.c2, .int .i64 d.co]) (by rw [hdv]))
      have hN := fun W => near2_c d.nm d.kd d.co p q W
      generalize hB : (d.kd != 2) = B at hN
      have hst := mkHid (row_set hv' (show y < os'.length by omega) rest (x := (d, .agg #[.string d.nm, .int .u8 d.kd, .bool p.b1, .slice p.a1 p.n1 p.c1, .bool p.b2, .slice p.a2 p.n2 p.c2, .bool q.b1, .slice q.a1 q.n1 q.c1, .bool q.b2, .slice q.a2 q.n2 q.c2, .int .i64 d.co])) (sub := #[.string d.nm, .int .u8 d.kd, .bool p.b1, .slice p.a1 p.n1 p.c1, .bool p.b2, .slice p.a2 p.n2 p.c2, .bool q.b1, .slice q.a1 q.n1 q.c1, .bool q.b2, .slice q.a2 q.n2 q.c2, .int .i64 d.co]) rfl rfl)
      have hsz := mkHid (show (cellsP os' ++ rest).toArray.size = c * 11 by rw [List.size_toArray, List.length_append, cellsP_len hv', hrl.out, hlen, ← Nat.add_mul]; congr 1; omega)
      have hjl : (j : Int) < (os.length : Int) := by omega
      have hil : (y : Int) < (os.length : Int) := by omega
      have hg2 : g < w2.heap.size := (Array.getElem?_eq_some_iff.1 hrow).1
      obtain ⟨w3, hw3⟩ : ∃ w3, w3 = (w2.alloc (.cells #[.string ⟨#[]⟩, .int .u8 0, .bool false, .slice none 0 0, .bool false, .slice none 0 0, .bool false, .slice none 0 0, .bool false, .slice none 0 0, .int .i64 0] 38)).setRow w2.heap.size #[.string d.nm, .int .u8 d.kd, .bool p.b1, .slice p.a1 p.n1 p.c1, .bool p.b2, .slice p.a2 p.n2 p.c2, .bool q.b1, .slice q.a1 q.n1 q.c1, .bool q.b2, .slice q.a2 q.n2 q.c2, .int .i64 d.co] := ⟨_, rfl⟩
      have hE3 : Ext w2 w3 := by rw [hw3]; exact ((Ext.refl w2).al _).row (Nat.le_refl _) _
      have z3 := mkHid (show w3.heap[w2.heap.size]? = some (.cells #[.string d.nm, .int .u8 d.kd, .bool p.b1, .slice p.a1 p.n1 p.c1, .bool p.b2, .slice p.a2 p.n2 p.c2, .bool q.b1, .slice q.a1 q.n1 q.c1, .bool q.b2, .slice q.a2 q.n2 q.c2, .int .i64 d.co] 38 (0, 0)) by rw [hw3]; exact setRow_heap _ _ _ _ _ _ (heap_alloc_new _ _))
      have hrow3 := mkHid (hE3.blk hrow)
      replace hN := mkHid hN
      replace hB := mkHid hB
      replace hdv := mkHid hdv
      replace hdo := mkHid hdo
      replace hw3 := mkHid hw3
      replace hE3 := mkHid hE3
      replace hrow := mkHid hrow
      replace hch := mkHid hch
      replace htk := mkHid htk
      replace hdr := mkHid hdr
      replace hsub := mkHid hsub
      replace hlen := mkHid hlen
      replace hv' := mkHid hv'
      replace hmem := mkHid hmem
      clear e0
      have tok : Tok 0 := .mk _
      cases B
      all_goals go_wp2_with (first
        | ((have _t : Tok 0 := tok); clear _t; clear tok; (have tok : Tok 1 := .mk _); refine wpList_load_sub (by rfl) 38 (.tmp 24) rfl g (j * 11) ?zz 38 _ #[.string d.nm, .int .u8 d.kd, .bool p.b1, .slice p.a1 p.n1 p.c1, .bool p.b2, .slice p.a2 p.n2 p.c2, .bool q.b1, .slice q.a1 q.n1 q.c1, .bool q.b2, .slice q.a2 q.n2 q.c2, .int .i64 d.co] (0, 0) _ hrow.out hx.out Tryz.underlying38 rfl (by kernel_rfl) ?_; (case zz => rfl))
        | ((have _t : Tok 1 := tok); clear _t; clear tok; (have tok : Tok 2 := .mk _); refine wpList_store_row rfl 38 (.tmp 7) (.tmp 25) rfl w2.heap.size #[.string d.nm, .int .u8 d.kd, .bool p.b1, .slice p.a1 p.n1 p.c1, .bool p.b2, .slice p.a2 p.n2 p.c2, .bool q.b1, .slice q.a1 q.n1 q.c1, .bool q.b2, .slice q.a2 q.n2 q.c2, .int .i64 d.co] rfl rfl 38 _ (heap_alloc_new _ _) (by kernel_rfl) rfl (by kernel_rfl) ?_; rw [← hw3.out])
        | ((have _t : Tok 2 := tok); clear _t; clear tok; (have tok : Tok 3 := .mk _); refine wpList_load_row (by rfl) 38 (.tmp 7) rfl w2.heap.size rfl 38 #[.string d.nm, .int .u8 d.kd, .bool p.b1, .slice p.a1 p.n1 p.c1, .bool p.b2, .slice p.a2 p.n2 p.c2, .bool q.b1, .slice q.a1 q.n1 q.c1, .bool q.b2, .slice q.a2 q.n2 q.c2, .int .i64 d.co] (0, 0) _ z3.out Tryz.underlying38 rfl (by kernel_rfl) ?_)
        | ((have _t : Tok 3 := tok); clear _t; clear tok; (have tok : Tok 4 := .mk _); go_at_call 41; refine (hN.out _).mono ?_; rintro e w4 ⟨rfl, hx4⟩; replace z3 := mkHid (hx4.blk z3.out); replace hrow3 := mkHid (hx4.blk hrow3.out); replace hE3 := mkHid (hE3.out.trans hx4); clear hx4)
        | ((have _t : Tok 4 := tok); clear _t; clear tok; (have tok : Tok 5 := .mk _); refine wpList_load_row (by rfl) 38 (.tmp 7) rfl w2.heap.size rfl 38 #[.string d.nm, .int .u8 d.kd, .bool p.b1, .slice p.a1 p.n1 p.c1, .bool p.b2, .slice p.a2 p.n2 p.c2, .bool q.b1, .slice q.a1 q.n1 q.c1, .bool q.b2, .slice q.a2 q.n2 q.c2, .int .i64 d.co] (0, 0) _ z3.out Tryz.underlying38 rfl (by kernel_rfl) ?_)
        | ((have _t : Tok 5 := tok); clear _t; clear tok; (have tok : Tok 6 := .mk _); refine wpList_store_sub rfl 38 (.tmp 33) (.tmp 32) rfl g (y * 11) ?zy 38 _ _ #[.string d.nm, .int .u8 d.kd, .bool p.b1, .slice p.a1 p.n1 p.c1, .bool p.b2, .slice p.a2 p.n2 p.c2, .bool q.b1, .slice q.a1 q.n1 q.c1, .bool q.b2, .slice q.a2 q.n2 q.c2, .int .i64 d.co] rfl hrow3.out (by kernel_rfl) ?zw hst.out (FV.store_one d p q) ?_; (case zy => rfl); (case zw => rw [hsz.out]; show y * 11 + 11 ≤ c * 11; omega)))
      · go_roundw
        case measure => simp [intOf]; omega
        case rel =>
          have hle : lensX (d, Value.agg #[.string d.nm, .int .u8 d.kd, .bool p.b1, .slice p.a1 p.n1 p.c1, .bool p.b2, .slice p.a2 p.n2 p.c2, .bool q.b1, .slice q.a1 q.n1 q.c1, .bool q.b2, .slice q.a2 q.n2 q.c2, .int .i64 d.co]) = true := by
            have := hB.out
            unfold lensX
            simpa using this
          have hy : y < os'.length := by omega
          repeat apply Exists.intro
          refine And.intro ?rr rfl
          refine ⟨y + 1, j + 1, os'.set y (d, Value.agg #[.string d.nm, .int .u8 d.kd, .bool p.b1, .slice p.a1 p.n1 p.c1, .bool p.b2, .slice p.a2 p.n2 p.c2, .bool q.b1, .slice q.a1 q.n1 q.c1, .bool q.b2, .slice q.a2 q.n2 q.c2, .int .i64 d.co]), by omega, by omega, by go_num, by go_num, by rw [List.length_set]; exact hlen.out, ?_, ?_, fun x hx => ?_, setRow_heap _ _ _ _ _ _ hrow3.out, hch.out.trans ((Chg.of_ext hE3.out _).trans (Chg.set _ _ _))⟩
          · rw [List.take_succ_eq_append_getElem (by rw [List.length_set]; exact hy), List.take_set_of_le (Nat.le_refl _), List.getElem_set_self, htk.out, List.take_succ_eq_append_getElem hlt, hdo.out, List.filter_append, List.filter_cons_of_pos hle, List.filter_nil]
          · rw [List.drop_set_of_lt (by omega), ← List.drop_drop, hdr.out, List.drop_drop]
          · rcases List.mem_or_eq_of_mem_set hx with hx | rfl
            · exact hsub.out x hx
            · exact hsub.out _ hmem.out
      · go_roundw
        case measure => simp [intOf]; omega
        case rel =>
          have hle : ¬ lensX (d, Value.agg #[.string d.nm, .int .u8 d.kd, .bool p.b1, .slice p.a1 p.n1 p.c1, .bool p.b2, .slice p.a2 p.n2 p.c2, .bool q.b1, .slice q.a1 q.n1 q.c1, .bool q.b2, .slice q.a2 q.n2 q.c2, .int .i64 d.co]) = true := by
            have := hB.out
            unfold lensX
            simpa using this
          repeat apply Exists.intro
          refine And.intro ?rr2 rfl
          refine ⟨y, j + 1, os', by omega, by omega, rfl, by go_num, hlen.out, ?_, ?_, hsub.out, hrow3.out, hch.out.trans (Chg.of_ext hE3.out _)⟩
          · rw [htk.out, List.take_succ_eq_append_getElem hlt, hdo.out, List.filter_append, List.filter_cons_of_neg hle, List.filter_nil, List.append_nil]
          · rw [← List.drop_drop, hdr.out, List.drop_drop]
    · have hjn : j = os.length := by omega
      subst hjn
      have hsz := show (cellsP os' ++ rest).toArray.size = c * 11 by rw [List.size_toArray, List.length_append, cellsP_len hv', hrl.out, hlen, ← Nat.add_mul]; congr 1; omega
      have hcl := fun ty => run_clear_row w2 ty g (y * 11) (os.length - y) (c - y) _ hrow (by omega) (by rw [hsz, ← Nat.add_mul]; exact Nat.mul_le_mul_right _ (by omega))
      obtain ⟨w5, hw5⟩ : ∃ w5, w5 = w2.setRow g ((cellsP os' ++ rest).toArray.toList.take (y * 11) ++ (Builtin.zeroCells zeroPart.cells (os.length - y)).toList ++ (cellsP os' ++ rest).toArray.toList.drop (y * 11 + (os.length - y) * 11)).toArray := ⟨_, rfl⟩
      rw [← hw5] at hcl
      have hil : (y : Int) < (os.length : Int) := by omega
      have hcl2 : (c : Int) ≤ 9223372036854775807 := by have := hcm.out; unfold maxLen at this; omega
      replace hw5 := mkHid hw5
      replace hrow := mkHid hrow
      replace hch := mkHid hch
      replace htk := mkHid htk
      replace hdr := mkHid hdr
      replace hsub := mkHid hsub
      replace hlen := mkHid hlen
      replace hv' := mkHid hv'
      replace hsz := mkHid hsz
      go_wp2_with fail
      go_ret
      have hF : os'.take y = os.filter lensX := by rw [htk.out, List.take_length]
      have hy : y < os'.length := by have := hlen.out; omega
      have hFl : (os.filter lensX).length = y := by rw [← hF, List.length_take]; omega
      obtain ⟨hs1, hs2⟩ := cellsP_split hv'.out hy
      have h5 := setRow_heap w2 g _ ((cellsP os' ++ rest).toArray.toList.take (y * 11) ++ (Builtin.zeroCells zeroPart.cells (os.length - y)).toList ++ (cellsP os' ++ rest).toArray.toList.drop (y * 11 + (os.length - y) * 11)).toArray _ _ hrow.out
      rw [← hw5.out] at h5
      have ht : (cellsP os' ++ rest).toArray.toList.take (y * 11) = cellsP (os.filter lensX) := by
        show (cellsP os' ++ rest).take (y * 11) = _
        rw [hs1, List.append_assoc, List.take_append_of_le_length (by omega), List.take_of_length_le (by omega), hF]
      rw [ht] at h5
      have hc5 : Chg w w5 (· = g) := hch.out.trans (by rw [hw5.out]; exact Chg.set _ _ _)
      have hcl11 : (cellsP (os.filter lensX)).length = y * 11 := by rw [← hF]; exact hs2
      refine ⟨_, rfl, ⟨⟨by rw [hFl]; exact hcl11, .inr ⟨g, c, _, by rw [hFl]; rfl, hlg, h5, by rw [hFl]; omega, hcm.out, ?_, ?_⟩⟩, fun x hx => ?_, h.out.nod.sublist (blksP_filter _ _), fun k hk hm => ?_⟩, hc5.mono fun k _ hk => by rw [hk]; rfl⟩
      · have hz := hsz.out
        rw [List.size_toArray] at hz ⊢
        rw [List.length_append, List.length_append, hcl11, zero_len, List.length_drop]
        show y * 11 + (os.length - y) * 11 + ((cellsP os' ++ rest).length - _) = _
        rw [hz]
        omega
      · rw [hFl, List.append_assoc, List.take_append_of_le_length (by omega), List.take_of_length_le (by omega)]
      · have hxo : x ∈ os := (List.mem_filter.1 hx).1
        have hP := h.out.part x hxo
        refine hP.near fun k hk => hc5.block k (hP.span k hk).2 fun e => ?_
        exact h.out.own g rfl (List.mem_flatMap.2 ⟨x, hxo, by rw [← e]; exact hk⟩)
      · cases hk
        exact h.out.own g rfl ((blksP_filter _ _).subset hm)
end Go.Proofs.YtkkfgphcmnhabaaGreatDoor
namespace Go.Proofs.YtkkfgphcmnhabaaGreatDoor
set_option maxRecDepth 100000
open Go Go.RowKit Go.Proofs Go.Lib
theorem dg_low {q r j k : Nat} (h : j < k) : dg (q * 10 ^ k + r) j = dg r j := by
  have e : q * 10 ^ k = 10 ^ j * (q * 10 ^ (k - j - 1) * 10) := by
    have : 10 ^ k = 10 ^ j * (10 ^ (k - j - 1) * 10) := by
      rw [← Nat.pow_succ, ← Nat.pow_add]
      congr 1
      omega
    rw [this]
    grind
  have hd : (q * 10 ^ k + r) / 10 ^ j % 10 = r / 10 ^ j % 10 := by
    rw [e, Nat.mul_add_div (Nat.pow_pos (by omega)), Nat.mul_add_mod']
  unfold dg
  rw [hd]
theorem dg_high {q r i k : Nat} (h : r < 10 ^ k) : dg (q * 10 ^ k + r) (k + i) = dg q i := by
  have hd : (q * 10 ^ k + r) / 10 ^ k = q := by
    rw [Nat.mul_comm, Nat.mul_add_div (Nat.pow_pos (by omega)), Nat.div_eq_of_lt h, Nat.add_zero]
  unfold dg
  rw [Nat.pow_add, ← Nat.div_div_eq_div_mul, hd]
theorem pow_le_nDigits (q : Nat) (h : 0 < q) : 10 ^ (nDigits q - 1) ≤ q := by
  induction q using Nat.strongRecOn with
  | _ q ih =>
    by_cases h1 : q < 10
    · rw [nDigits_small h1]
      exact h
    · have := ih (q / 10) (by omega) (by omega)
      have hp := nDigits_pos (q / 10)
      rw [nDigits_big h1, show nDigits (q / 10) + 1 - 1 = (nDigits (q / 10) - 1) + 1 by omega, Nat.pow_succ]
      omega
theorem nDigits_shift {q r : Nat} (hq : 0 < q) : ∀ k, r < 10 ^ k → nDigits (q * 10 ^ k + r) = nDigits q + k := by
  intro k hr
  have h1 := lt_pow_nDigits q
  have hp := nDigits_pos q
  have h2 := pow_le_nDigits q hq
  have e : nDigits q + k = (nDigits q + k - 1) + 1 := by omega
  rw [e]
  refine nDigits_unique _ _ ?_ ?_
  · rw [show nDigits q + k - 1 = nDigits q - 1 + k by omega, Nat.pow_add]
    exact Nat.le_trans (Nat.mul_le_mul_right _ h2) (Nat.le_add_right _ _)
  · rw [show nDigits q + k - 1 + 1 = nDigits q + k by omega, Nat.pow_add]
    calc q * 10 ^ k + r < q * 10 ^ k + 10 ^ k := by omega
      _ = (q + 1) * 10 ^ k := by rw [Nat.add_mul, Nat.one_mul]
      _ ≤ 10 ^ nDigits q * 10 ^ k := Nat.mul_le_mul_right _ h1
/-- The nine digits of a part. -/
def nine (r : Nat) : List UInt8 := (List.range 9).map fun t => dg r (8 - t)
theorem dec_nine {q r : Nat} (hq : 0 < q) (hr : r < 1000000000) : decDigits (q * 1000000000 + r) = decDigits q ++ nine r := by
  have hr' : r < 10 ^ 9 := hr
  rw [decDigits_eq, show q * 1000000000 + r = q * 10 ^ 9 + r from rfl, nDigits_shift hq 9 hr', List.range_add, List.map_append, decDigits_eq q]
  congr 1
  · refine List.map_congr_left fun t ht => ?_
    have := List.mem_range.1 ht
    rw [show nDigits q + 9 - 1 - t = 9 + (nDigits q - 1 - t) by omega, dg_high hr']
  · unfold nine
    rw [List.map_map]
    refine List.map_congr_left fun t ht => ?_
    have := List.mem_range.1 ht
    show dg _ (nDigits q + 9 - 1 - (nDigits q + t)) = _
    rw [show nDigits q + 9 - 1 - (nDigits q + t) = 8 - t by omega, dg_low (by omega)]
end Go.Proofs.YtkkfgphcmnhabaaGreatDoor
