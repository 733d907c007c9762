/-
  Parts as data; a part in rows of its own: catalog.copied: printed by tools/gen_copied.py. The catalogue's map: parts by names, read as a list. The catalogue that is gone: its methods, and the reference's: printed by tools/gen_gone.py. Regions that draw their order, in which one plain move may float past the tail: no program. Printed by tools/gen_pre.py out of XFree. period: (*row).on. ray: Check. The Book: marks; entries. law01: SameFrac, SameElement, SamePart of whatever limbs: printed by tools/gen_samel.py. A region's load of a whole row, by the row's law: no program. (The walk's own load of 16 cells costs the kernel 14 s and 2 GB.) As FreeT, but an operation of the front may give no value (a store): printed by tools/gen_frees.py. A row that is stored early or late. law25: asked, of a catalogue that is gone: printed by tools/gen_asked.py. bench.may, bench.Check of one element, catalog.may: printed by tools/gen_may.py.
-/
import Derived.Test.YtjelnmokcpoofaaGreatDoorKAF
import Derived.Maps.OwnSet
import Derived.Maps.Ext
import Derived.Test.YtjelnmokcpoofaaGreatDoorKAD
import Derived.Test.YtjelnmokcpoofaaGreatDoorKAE
import Derived.LoopN
import Derived.Test.YtjelnmokcpoofaaGreatDoorKAA
import Derived.Deep.LoopGhost
import Derived.Test.YtjelnmokcpoofaaGreatDoorProg
import Derived.Test.YtjelnmokcpoofaaGreatDoorKAB
import Derived.Laws.AppendOwnNone
namespace Go.Proofs.YtjelnmokcpoofaaGreatDoor
set_option maxRecDepth 100000
open Go Go.RowKit Go.Proofs
/-- A part. -/
structure PD where
  nm : ByteArray
  kd : Int
  p : Rat
  q : Rat
  co : Int
/-- A part that can be read. -/
def PartR (w : World) (v : Value) (d : PD) : Prop := ∃ b1 a1 n1 c1 b2 a2 n2 c2 b3 a3 n3 c3 b4 a4 n4 c4, v = .agg #[.string d.nm, .int .u8 d.kd, .bool b1, .slice a1 n1 c1, .bool b2, .slice a2 n2 c2, .bool b3, .slice a3 n3 c3, .bool b4, .slice a4 n4 c4, .int .i64 d.co] ∧ FracR w (.agg #[.bool b1, .slice a1 n1 c1, .bool b2, .slice a2 n2 c2]) d.p ∧ FracR w (.agg #[.bool b3, .slice a3 n3 c3, .bool b4, .slice a4 n4 c4]) d.q
/-- A part in four rows of its own. -/
def PartK (lo : Nat) (w : World) (v : Value) (d : PD) : Prop := ∃ b1 a1 n1 c1 b2 a2 n2 c2 b3 a3 n3 c3 b4 a4 n4 c4, v = .agg #[.string d.nm, .int .u8 d.kd, .bool b1, .slice a1 n1 c1, .bool b2, .slice a2 n2 c2, .bool b3, .slice a3 n3 c3, .bool b4, .slice a4 n4 c4, .int .i64 d.co] ∧ FracO w lo (.agg #[.bool b1, .slice a1 n1 c1, .bool b2, .slice a2 n2 c2]) d.p ∧ FracO w lo (.agg #[.bool b3, .slice a3 n3 c3, .bool b4, .slice a4 n4 c4]) d.q ∧ (Aloof.blks v).Nodup
theorem PartR.ext {w w' : World} {v : Value} {d : PD} (h : PartR w v d) (e : Ext w w') : PartR w' v d := by
  obtain ⟨b1, a1, n1, c1, b2, a2, n2, c2, b3, a3, n3, c3, b4, a4, n4, c4, h0, h1, h2⟩ := h
  exact ⟨_, _, _, _, _, _, _, _, _, _, _, _, _, _, _, _, h0, h1.ext e, h2.ext e⟩
theorem PartK.ext {lo : Nat} {w w' : World} {v : Value} {d : PD} (h : PartK lo w v d) (e : Ext w w') : PartK lo w' v d := by
  obtain ⟨b1, a1, n1, c1, b2, a2, n2, c2, b3, a3, n3, c3, b4, a4, n4, c4, h0, h1, h2, h3⟩ := h
  exact ⟨_, _, _, _, _, _, _, _, _, _, _, _, _, _, _, _, h0, h1.ext e, h2.ext e, h3⟩
theorem PartK.r {lo : Nat} {w : World} {v : Value} {d : PD} (h : PartK lo w v d) : PartR w v d := by
  obtain ⟨b1, a1, n1, c1, b2, a2, n2, c2, b3, a3, n3, c3, b4, a4, n4, c4, h0, h1, h2, h3⟩ := h
  exact ⟨_, _, _, _, _, _, _, _, _, _, _, _, _, _, _, _, h0, h1.r, h2.r⟩
theorem PartK.mono {lo lo' : Nat} {w : World} {v : Value} {d : PD} (h : PartK lo w v d) (e : lo' ≤ lo) : PartK lo' w v d := by
  obtain ⟨b1, a1, n1, c1, b2, a2, n2, c2, b3, a3, n3, c3, b4, a4, n4, c4, h0, h1, h2, h3⟩ := h
  exact ⟨_, _, _, _, _, _, _, _, _, _, _, _, _, _, _, _, h0, h1.mono e, h2.mono e, h3⟩
theorem blks_part (s : ByteArray) (k co : Int) (b1 : Bool) (a1 : Option Addr) (n1 c1 : Nat) (b2 : Bool) (a2 : Option Addr) (n2 c2 : Nat) (b3 : Bool) (a3 : Option Addr) (n3 c3 : Nat) (b4 : Bool) (a4 : Option Addr) (n4 c4 : Nat) :
    Aloof.blks (.agg #[.string s, .int .u8 k, .bool b1, .slice a1 n1 c1, .bool b2, .slice a2 n2 c2, .bool b3, .slice a3 n3 c3, .bool b4, .slice a4 n4 c4, .int .i64 co]) = Aloof.blks (.agg #[.bool b1, .slice a1 n1 c1, .bool b2, .slice a2 n2 c2]) ++ Aloof.blks (.agg #[.bool b3, .slice a3 n3 c3, .bool b4, .slice a4 n4 c4]) := by
  cases a1 <;> cases a2 <;> cases a3 <;> cases a4 <;> rfl
theorem PartK.span {lo : Nat} {w : World} {v : Value} {d : PD} (h : PartK lo w v d) : ∀ g ∈ Aloof.blks v, lo ≤ g ∧ g < w.heap.size := by
  obtain ⟨b1, a1, n1, c1, b2, a2, n2, c2, b3, a3, n3, c3, b4, a4, n4, c4, rfl, h1, h2, h3⟩ := h
  rw [blks_part]
  intro g hg
  rcases List.mem_append.1 hg with hg | hg
  · exact h1.span g hg
  · exact h2.span g hg
set_option maxHeartbeats 1600000 in
theorem copied_k (v : Value) (d : PD) (w : World) (hp : nf d.p ≤ 268435456) (hq : nf d.q ≤ 268435456) (h : PartR w v d) :
    Calls Tryz.prog 28 #[v] w fun e w' => ∃ v', e = .returned v' ∧ Ext w w' ∧ PartK w.heap.size w' v' d := by
  obtain ⟨b1, a1, n1, c1, b2, a2, n2, c2, b3, a3, n3, c3, b4, a4, n4, c4, rfl, h1, h2⟩ := h
  have T1 := mkHid (fun W (e : Ext w W) => copy_k _ d.p W hp (h1.ext e))
  have T2 := mkHid (fun W (e : Ext w W) => copy_k _ d.q W hq (h2.ext e))
  clear h1 h2 hp hq
  go_enter Tryz.func28, Tryz.ntmps28
  go_wp2_with fail
  obtain ⟨wb, hwb⟩ : ∃ wb, wb = (w.alloc (.cells #[.string d.nm, .int .u8 d.kd, .bool b1, .slice a1 n1 c1, .bool b2, .slice a2 n2 c2, .bool b3, .slice a3 n3 c3, .bool b4, .slice a4 n4 c4, .int .i64 d.co] 56)).alloc (.cells #[.string ⟨#[]⟩, .int .u8 0, .bool false, .slice none 0 0, .bool false, .slice none 0 0, .bool false, .slice none 0 0, .bool false, .slice none 0 0, .int .i64 0] 56) := ⟨_, rfl⟩
  have hE : Ext w wb := by rw [hwb]; exact ((Ext.refl w).al _).al _
  have z0 : wb.heap[w.heap.size]? = some (.cells #[.string d.nm, .int .u8 d.kd, .bool b1, .slice a1 n1 c1, .bool b2, .slice a2 n2 c2, .bool b3, .slice a3 n3 c3, .bool b4, .slice a4 n4 c4, .int .i64 d.co] 56 (0, 0)) := by rw [hwb]; exact (heap_alloc_old _ _ (by simp)).trans (heap_alloc_new _ _)
  have zB : wb.heap[w.heap.size + 1]? = some (.cells #[.string ⟨#[]⟩, .int .u8 0, .bool false, .slice none 0 0, .bool false, .slice none 0 0, .bool false, .slice none 0 0, .bool false, .slice none 0 0, .int .i64 0] 56 (0, 0)) := by rw [hwb]; exact heap_at _ _ _ (by simp)
  have hlo : w.heap.size + 2 = wb.heap.size := by rw [hwb]; simp
  rw [← hwb]
  clear hwb
  replace z0 := mkHid z0
  replace zB := mkHid zB
  replace hE := mkHid hE
  apply region_aloof [.val (.pointer (some ⟨w.heap.size, 1, none⟩)), .val (.pointer (some ⟨w.heap.size, 2, none⟩)), .val (.agg #[.bool b1, .slice a1 n1 c1, .bool b2, .slice a2 n2 c2]), .fresh (fun W v => FracK (w.heap.size + 2) W v d.p), .val (.pointer (some ⟨w.heap.size, 1, none⟩)), .val (.pointer (some ⟨w.heap.size, 6, none⟩)), .val (.agg #[.bool b3, .slice a3 n3 c3, .bool b4, .slice a4 n4 c4]), .fresh (fun W v => FracK (w.heap.size + 2) W v d.q), .val (.pointer (some ⟨w.heap.size, 1, none⟩)), .val (.pointer (some ⟨w.heap.size, 2, none⟩))] (by kernel_rfl) (ast_val _ (ast_val _ (ast_val _ (ast_fracK _ _ (ast_val _ (ast_val _ (ast_val _ (ast_fracK _ _ (ast_val _ (ast_val _ trivial))))))))))
  iterate 2 (refine ⟨fun W hW _ => by go_simp; first | exact ⟨Ext.refl _, rfl⟩ | exact Ext.refl _, ?_⟩)
  refine ⟨?l1, ?_⟩
  case l1 =>
    intro W hW hF
    have hr := hW.blk z0.out
    with_reducible refine fr_load_subA ?zhw 52 (.tmp 4) ?zho w.heap.size 2 ?zhx 56 _ #[.bool b1, .slice a1 n1 c1, .bool b2, .slice a2 n2 c2] (0, 0) _ hr ?zhs Tryz.underlying52 ?zhd ?zhi ?zh
    case zhw => kernel_rfl
    case zho => rfl
    case zhx => kernel_rfl
    case zhs => rfl
    case zhd => rfl
    case zhi => kernel_rfl
    case zh => exact ⟨Ext.refl _, rfl⟩
  refine ⟨fun W hW _ => ?g2, fun x2 => ?_⟩
  case g2 =>
    go_simp
    refine (T1.out W (hE.out.trans hW)).mono ?_
    rintro e w' ⟨v, rfl, h1, h2⟩
    exact ⟨v, rfl, h1, h2.new (by have := hW.size; omega)⟩
  iterate 2 (refine ⟨fun W hW _ => by go_simp; first | exact ⟨Ext.refl _, rfl⟩ | exact Ext.refl _, ?_⟩)
  refine ⟨?l2, ?_⟩
  case l2 =>
    intro W hW hF
    have hr := hW.blk z0.out
    with_reducible refine fr_load_subA ?zhw 52 (.tmp 8) ?zho w.heap.size 6 ?zhx 56 _ #[.bool b3, .slice a3 n3 c3, .bool b4, .slice a4 n4 c4] (0, 0) _ hr ?zhs Tryz.underlying52 ?zhd ?zhi ?zh
    case zhw => kernel_rfl
    case zho => rfl
    case zhx => kernel_rfl
    case zhs => rfl
    case zhd => rfl
    case zhi => kernel_rfl
    case zh => exact ⟨Ext.refl _, rfl⟩
  refine ⟨fun W hW _ => ?g5, fun x5 => ?_⟩
  case g5 =>
    go_simp
    refine (T2.out W (hE.out.trans hW)).mono ?_
    rintro e w' ⟨v, rfl, h1, h2⟩
    exact ⟨v, rfl, h1, h2.new (by have := hW.size; omega)⟩
  iterate 2 (refine ⟨fun W hW _ => by go_simp; first | exact ⟨Ext.refl _, rfl⟩ | exact Ext.refl _, ?_⟩)
  intro W hW hF hA
  have d2 : FracK (w.heap.size + 2) W x2 d.p := (hF.2.1 rfl).1
  have d5 : FracK (w.heap.size + 2) W x5 d.q := (hF.1 rfl).1
  have hap := hA (3, .fresh (fun W v => FracK (w.heap.size + 2) W v d.p), x2) (7, .fresh (fun W v => FracK (w.heap.size + 2) W v d.q), x5) (by simp) (by simp) rfl rfl (by simp)
  obtain ⟨⟨b1', a1', n1', c1', b2', a2', n2', c2', rfl, p1, p2⟩, p3⟩ := d2
  obtain ⟨⟨b3', a3', n3', c3', b4', a4', n4', c4', rfl, q1, q2⟩, q3⟩ := d5
  have hnd : (Aloof.blks (.agg #[.string d.nm, .int .u8 d.kd, .bool b1', .slice a1' n1' c1', .bool b2', .slice a2' n2' c2', .bool b3', .slice a3' n3' c3', .bool b4', .slice a4' n4' c4', .int .i64 d.co])).Nodup := by
    rw [blks_part]
    exact List.nodup_append.2 ⟨p3, q3, fun a h1 b h2 e => hap a h1 (e ▸ h2)⟩
  have z0W := mkHid (hW.blk z0.out)
  have zBW := mkHid (hW.blk zB.out)
  have P1 : FracO W (w.heap.size + 2) (.agg #[.bool b1', .slice a1' n1' c1', .bool b2', .slice a2' n2' c2']) d.p := ⟨_, _, _, _, _, _, _, _, rfl, p1, p2⟩
  have Q1 : FracO W (w.heap.size + 2) (.agg #[.bool b3', .slice a3' n3' c3', .bool b4', .slice a4' n4' c4']) d.q := ⟨_, _, _, _, _, _, _, _, rfl, q1, q2⟩
  obtain ⟨W1, hW1⟩ : ∃ W1, W1 = W.setRow w.heap.size #[.string d.nm, .int .u8 d.kd, .bool b1', .slice a1' n1' c1', .bool b2', .slice a2' n2' c2', .bool b3, .slice a3 n3 c3, .bool b4, .slice a4 n4 c4, .int .i64 d.co] := ⟨_, rfl⟩
  obtain ⟨W2, hW2⟩ : ∃ W2, W2 = W1.setRow w.heap.size #[.string d.nm, .int .u8 d.kd, .bool b1', .slice a1' n1' c1', .bool b2', .slice a2' n2' c2', .bool b3', .slice a3' n3' c3', .bool b4', .slice a4' n4' c4', .int .i64 d.co] := ⟨_, rfl⟩
  have z1 : W1.heap[w.heap.size]? = some (.cells #[.string d.nm, .int .u8 d.kd, .bool b1', .slice a1' n1' c1', .bool b2', .slice a2' n2' c2', .bool b3, .slice a3 n3 c3, .bool b4, .slice a4 n4 c4, .int .i64 d.co] 56 (0, 0)) := by rw [hW1]; exact setRow_heap _ _ _ _ _ _ z0W.out
  have z2 : W2.heap[w.heap.size]? = some (.cells #[.string d.nm, .int .u8 d.kd, .bool b1', .slice a1' n1' c1', .bool b2', .slice a2' n2' c2', .bool b3', .slice a3' n3' c3', .bool b4', .slice a4' n4' c4', .int .i64 d.co] 56 (0, 0)) := by rw [hW2]; exact setRow_heap _ _ _ _ _ _ z1
  have zB2 : W2.heap[w.heap.size + 1]? = some (.cells #[.string ⟨#[]⟩, .int .u8 0, .bool false, .slice none 0 0, .bool false, .slice none 0 0, .bool false, .slice none 0 0, .bool false, .slice none 0 0, .int .i64 0] 56 (0, 0)) := by rw [hW2, setRow_other _ _ _ _ (by omega), hW1, setRow_other _ _ _ _ (by omega)]; exact zBW.out
  have FE := mkHid (show Ext w (W2.setRow (w.heap.size + 1) #[.string d.nm, .int .u8 d.kd, .bool b1', .slice a1' n1' c1', .bool b2', .slice a2' n2' c2', .bool b3', .slice a3' n3' c3', .bool b4', .slice a4' n4' c4', .int .i64 d.co]) by rw [hW2, hW1]; exact (((hE.out.trans hW).row (Nat.le_refl _) _).row (Nat.le_refl _) _).row (show w.heap.size ≤ w.heap.size + 1 by omega) _)
  have FP := mkHid (show FracO (W2.setRow (w.heap.size + 1) #[.string d.nm, .int .u8 d.kd, .bool b1', .slice a1' n1' c1', .bool b2', .slice a2' n2' c2', .bool b3', .slice a3' n3' c3', .bool b4', .slice a4' n4' c4', .int .i64 d.co]) w.heap.size (.agg #[.bool b1', .slice a1' n1' c1', .bool b2', .slice a2' n2' c2']) d.p by rw [hW2, hW1]; exact (((P1.row (by omega) _).row (by omega) _).row (by omega) _).mono (by omega))
  have FQ := mkHid (show FracO (W2.setRow (w.heap.size + 1) #[.string d.nm, .int .u8 d.kd, .bool b1', .slice a1' n1' c1', .bool b2', .slice a2' n2' c2', .bool b3', .slice a3' n3' c3', .bool b4', .slice a4' n4' c4', .int .i64 d.co]) w.heap.size (.agg #[.bool b3', .slice a3' n3' c3', .bool b4', .slice a4' n4' c4']) d.q by rw [hW2, hW1]; exact (((Q1.row (by omega) _).row (by omega) _).row (by omega) _).mono (by omega))
  replace hnd := mkHid hnd
  replace z1 := mkHid z1
  replace z2 := mkHid z2
  replace zB2 := mkHid zB2
  replace hW1 := mkHid hW1
  replace hW2 := mkHid hW2
  clear hF hA hap p1 p2 p3 q1 q2 q3 P1 Q1 hW hlo
  go_simp
  go_wp2_with (first
    | (refine wpList_store_sub (by rfl) 52 (.tmp 12) (.tmp 6) rfl w.heap.size 2 rfl 56 _ #[.string d.nm, .int .u8 d.kd, .bool b1', .slice a1' n1' c1', .bool b2', .slice a2' n2' c2', .bool b3, .slice a3 n3 c3, .bool b4, .slice a4 n4 c4, .int .i64 d.co] #[.bool b1', .slice a1' n1' c1', .bool b2', .slice a2' n2' c2'] rfl z0W.out (by kernel_rfl) (by simp) rfl (by kernel_rfl) ?_; rw [← hW1.out])
    | (refine wpList_store_sub (by rfl) 52 (.tmp 14) (.tmp 10) rfl w.heap.size 6 rfl 56 _ #[.string d.nm, .int .u8 d.kd, .bool b1', .slice a1' n1' c1', .bool b2', .slice a2' n2' c2', .bool b3', .slice a3' n3' c3', .bool b4', .slice a4' n4' c4', .int .i64 d.co] #[.bool b3', .slice a3' n3' c3', .bool b4', .slice a4' n4' c4'] rfl z1.out (by kernel_rfl) (by simp) rfl (by kernel_rfl) ?_; rw [← hW2.out])
    | (refine wpList_load_row (by rfl) 56 (.tmp 1) rfl w.heap.size rfl 56 #[.string d.nm, .int .u8 d.kd, .bool b1', .slice a1' n1' c1', .bool b2', .slice a2' n2' c2', .bool b3', .slice a3' n3' c3', .bool b4', .slice a4' n4' c4', .int .i64 d.co] (0, 0) _ z2.out Tryz.underlying56 rfl (by kernel_rfl) ?_)
    | (refine wpList_store_row rfl 56 (.tmp 2) (.tmp 15) rfl (w.heap.size + 1) #[.string d.nm, .int .u8 d.kd, .bool b1', .slice a1' n1' c1', .bool b2', .slice a2' n2' c2', .bool b3', .slice a3' n3' c3', .bool b4', .slice a4' n4' c4', .int .i64 d.co] rfl rfl 56 _ zB2.out (by kernel_rfl) rfl (by kernel_rfl) ?_))
  exact bodyPost_ret (results_cell_row rfl _ _ (w.heap.size + 1) 56 #[.string d.nm, .int .u8 d.kd, .bool b1', .slice a1' n1' c1', .bool b2', .slice a2' n2' c2', .bool b3', .slice a3' n3' c3', .bool b4', .slice a4' n4' c4', .int .i64 d.co] (0, 0) _ rfl (setRow_heap _ _ _ _ _ _ zB2.out) Tryz.underlying56 rfl (by kernel_rfl)) rfl ⟨_, rfl, FE.out, _, _, _, _, _, _, _, _, _, _, _, _, _, _, _, _, rfl, FP.out, FQ.out, hnd.out⟩
end Go.Proofs.YtjelnmokcpoofaaGreatDoor
namespace Go.Proofs.YtjelnmokcpoofaaGreatDoor
set_option maxRecDepth 100000
open Go Go.RowKit Go.Proofs
/-- An element of the map is held as it is. -/
def heldR (v : Value) : Option (DataW Value × List MemPlace) := some (.held v, [])
def keyL (s : ByteArray) : Lit := .string s.data.toList
def entM (p : PD × Value) : Lit × DataW Value := (keyL p.1.nm, .held p.2)
/-- Block M is a map of these parts, their names rising. -/
def MapP (w : World) (M : Nat) (es : List (PD × Value)) : Prop := w.ownsMap Tryz.prog 9 heldR M es.length (.map (es.map entM))
def nameIs (s : ByteArray) (p : PD × Value) : Bool := p.1.nm.data.toList == s.data.toList
/-- The part of a name. -/
def findP (s : ByteArray) (es : List (PD × Value)) : Option (PD × Value) := es.find? (nameIs s)
abbrev zeroPart : Value := .agg #[.string ⟨#[]⟩, .int .u8 0, .bool false, .slice none 0 0, .bool false, .slice none 0 0, .bool false, .slice none 0 0, .bool false, .slice none 0 0, .int .i64 0]
theorem same_nameIs (s : ByteArray) (p : PD × Value) : (entM p).1.sameKey (keyL s) = nameIs s p := rfl
theorem has_find (s : ByteArray) : ∀ es : List (PD × Value), Maps.has (.map (es.map entM)) (keyL s) = (findP s es).isSome
  | [] => rfl
  | p :: r => by
    have ih := has_find s r
    rw [Maps.has_eq] at ih ⊢
    simp only [List.map_cons, List.any_cons, same_nameIs, findP, List.find?_cons]
    cases h : nameIs s p with
    | true => simp
    | false =>
      simp only [Bool.false_or]
      exact ih
theorem at_find (s : ByteArray) (z : Value) (es : List (PD × Value)) : (DataW.map (es.map entM)).atKey (keyL s) (.held z) = .held (((findP s es).map (·.2)).getD z) := by
  have e : (es.map entM).find? (fun p => p.1.sameKey (keyL s)) = (es.find? (nameIs s)).map entM := by
    rw [List.find?_map]
    rfl
  unfold findP DataW.atKey
  simp only [e]
  cases es.find? (nameIs s) <;> rfl
theorem zero_part (w : World) : (zeroValue 56).run Tryz.prog w = .ok zeroPart w := by kernel_rfl
theorem keyed_str : Maps.Keyed Tryz.prog 9 := Maps.string_keyed Tryz.underlying9
theorem key_str {s : ByteArray} (hs : s.size ≤ maxLen) : keyOf Tryz.prog 9 (.string s) = some (keyL s) := WideMaps.keyOf_string_mk Tryz.underlying9 hs
theorem heldR_inv {v : Value} {d : DataW Value} {ps : List MemPlace} (h : heldR v = some (d, ps)) : d = .held v := by
  unfold heldR at h
  cases h
  rfl
/-- 'v, ok := m[s]'. -/
theorem MapP.look {w : World} {M : Nat} {es : List (PD × Value)} (h : MapP w M es) (s : ByteArray) (hs : s.size ≤ maxLen) :
    (Instr.lookup 59 (.map (some M)) (.string s) true).run Tryz.prog w = .ok (.tuple #[((findP s es).map (·.2)).getD zeroPart, .bool (findP s es).isSome]) w := by
  obtain ⟨v, ps, h1, h2⟩ := World.ownsMap.look_ok h keyed_str Tryz.underlying59 (zero_part w) (zd := .held zeroPart) rfl (key_str hs)
  have h3 := heldR_inv h2
  rw [at_find] at h3
  cases h3
  rw [h1, has_find]
/-- 'm[s]'. -/
theorem MapP.look1 {w : World} {M : Nat} {es : List (PD × Value)} (h : MapP w M es) (s : ByteArray) (hs : s.size ≤ maxLen) :
    (Instr.lookup 59 (.map (some M)) (.string s) false).run Tryz.prog w = .ok (((findP s es).map (·.2)).getD zeroPart) w := by
  obtain ⟨v, ps, h1, h2⟩ := World.ownsMap.lookup h keyed_str Tryz.underlying59 (zero_part w) (zd := .held zeroPart) rfl (key_str hs)
  have h3 := heldR_inv h2
  rw [at_find] at h3
  cases h3
  exact h1
/-- 'len(m)'. -/
theorem MapP.len {w : World} {M : Nat} {es : List (PD × Value)} (h : MapP w M es) (ty : TypeId) : (Builtin.len_ #[59] ty #[.map (some M)]).run Tryz.prog w = .ok (.int .i64 es.length) w := by
  have := World.ownsMap.len h Tryz.underlying59 ty
  rw [this, Maps.size_eq, List.length_map]
/-- What a store makes of the list. -/
def insP (x : PD × Value) : List (PD × Value) → List (PD × Value)
  | [] => [x]
  | y :: r => if bytesBefore x.1.nm.data.toList y.1.nm.data.toList then x :: y :: r else y :: insP x r
theorem insP_length (x : PD × Value) : ∀ es, (insP x es).length = es.length + 1
  | [] => rfl
  | y :: r => by
    unfold insP
    split
    · rfl
    · simp [insP_length x r]
theorem ins_map (x : PD × Value) : ∀ es : List (PD × Value), DataW.insert (entM x) (es.map entM) = (insP x es).map entM
  | [] => rfl
  | y :: r => by
    show (if bytesBefore x.1.nm.data.toList y.1.nm.data.toList then entM x :: entM y :: r.map entM else entM y :: DataW.insert (entM x) (r.map entM)) = _
    unfold insP
    split
    · rfl
    · rw [ins_map x r]
      rfl
theorem filter_none {s : ByteArray} {es : List (PD × Value)} (h : findP s es = none) : (es.map entM).filter (fun p => !p.1.sameKey (keyL s)) = es.map entM := by
  rw [List.filter_eq_self]
  intro p hp
  obtain ⟨q, hq, rfl⟩ := List.mem_map.1 hp
  rw [same_nameIs]
  have := List.find?_eq_none.1 h q hq
  simpa using this
theorem ownsMap_exact {P : Program} {k M n : Nat} {w : World} {es : List (PD × Value)} (h : w.ownsMap P k heldR M n (.map (es.map entM))) : w.ownsMap P k heldR M es.length (.map (es.map entM)) := by
  obtain ⟨a, clock, hb, F, hs, hD⟩ := h
  refine ⟨a, clock, hb, F, ?_, hD⟩
  have := congrArg Maps.size hD
  simp only [Maps.size_eq, List.length_map, length_sorted, Array.length_toList] at this
  omega
/-- 'm[s] = v', s not there. -/
theorem MapP.store {w : World} {M : Nat} {es : List (PD × Value)} (h : MapP w M es) (x : PD × Value) (hs : x.1.nm.size ≤ maxLen) (hn : es.length < maxLen) (hf : findP x.1.nm es = none) :
    ∃ w', (Instr.mapUpdate 59 (.map (some M)) (.string x.1.nm) x.2).run Tryz.prog w = .ok () w' ∧ MapP w' M (insP x es) ∧ w.mapTurned w' M := by
  obtain ⟨w', h1, h2, h3⟩ := World.ownsMap.store h keyed_str Tryz.underlying59 hn (key_str hs) (val := x.2) (d := .held x.2) (ps := []) rfl
  refine ⟨w', h1, ?_, h3⟩
  have e : (DataW.map (es.map entM)).put (keyL x.1.nm) (.held x.2) = .map ((insP x es).map entM) := by
    show DataW.map (DataW.insert (entM x) ((es.map entM).filter fun p => !p.1.sameKey (keyL x.1.nm))) = _
    rw [filter_none hf, ins_map]
  rw [e] at h2
  exact ownsMap_exact h2
/-- The names rise. -/
def Rising (es : List (PD × Value)) : Prop := es.Pairwise fun a b => bytesBefore a.1.nm.data.toList b.1.nm.data.toList = true
theorem MapP.rising {w : World} {M : Nat} {es : List (PD × Value)} (h : MapP w M es) : Rising es := by
  obtain ⟨l, h1, h2, _⟩ := World.ownsMap.canon h keyed_str
  cases h1
  exact List.pairwise_map.1 h2
theorem MapP.blk {w w' : World} {M : Nat} {es : List (PD × Value)} (h : MapP w M es) (e : w'.heap[M]? = w.heap[M]?) : MapP w' M es := by
  obtain ⟨a, clock, hb, r⟩ := h
  exact ⟨a, clock, e.trans hb, r⟩
theorem MapP.lt {w : World} {M : Nat} {es : List (PD × Value)} (h : MapP w M es) : M < w.heap.size := World.ownsMap.lt h
theorem mapP_made (w : World) : MapP (w.alloc (.map #[] 0)) w.heap.size [] := World.ownsMap_made _ _ _ _
end Go.Proofs.YtjelnmokcpoofaaGreatDoor
namespace Go.Proofs.YtjelnmokcpoofaaGreatDoor
set_option maxRecDepth 100000
open Go Go.RowKit Go.Proofs
theorem cell0 {w : World} {g T : Nat} {v : Value} (h : w.heap[g]? = some (.cells #[v] T (0, 0))) : w.cell? ⟨g, 0, none⟩ = some v := by simp [World.cell?, h]
end Go.Proofs.YtjelnmokcpoofaaGreatDoor
namespace Go.Proofs.YtjelnmokcpoofaaGreatDoor.Pre
set_option maxRecDepth 100000
open Go Go.RowKit Go.Proofs.YtjelnmokcpoofaaGreatDoor
def okOper (pre : List Nat) (l : List Oper) (n i : Nat) (o : Oper) : Bool :=
  (o.after.toList.all fun e => !Region.binds .any e || decide (e.on < i)) &&
  (if i < n then
    o.dst.isSome && (List.range l.length).all fun j => match l[j]? with
      | some oj => (match oj.dst with
        | some d => (!(o.looksAt l.toArray).contains d || (decide (j < i) && hasEdge o j)) && (j == i || o.dst != some d)
        | none => true)
      | none => true
  else (List.range i).all fun j => pre.contains j || ancB l 16 o j)
def okFree (pre : List Nat) (n size : Nat) (l : List Oper) : Bool :=
  Region.noSelect l.toArray && decide (n ≤ l.length) && (l.all fun o => match o.dst with | some d => decide (d < size) | none => true) &&
    (List.range l.length).all fun i => match l[i]? with | some o => okOper pre l n i o | none => true
section
variable {pre : List Nat} {P : Program} {l0 : List Oper} {R : World → World → Prop} {w0 : World} {Q : Exit → Act → World → Prop}
theorem tail_forced {n : Nat} (htail : ∀ i o, n ≤ i → l0[i]? = some o → ∀ j, j < i → j ∈ pre ∨ ancB l0 16 o j = true) :
    ∀ (k m : Nat) (listed : Array Bool) (a : Act) (W : World) (fuel : Nat), n ≤ m → m + k = l0.length → k ≤ fuel → listed.size = l0.length → (∀ j ∈ pre, listed.getD j false = true) →
      (∀ i o, listed.getD i false = true → l0[i]? = some o → ∀ e ∈ o.after, Region.binds .any e = true → listed.getD e.on false = true) →
      (∀ i, i < l0.length → (listed.getD i false = true ↔ i < m)) →
      (∀ i o, l0[i]? = some o → ∀ e ∈ o.after, Region.binds .any e = true → e.on < i) →
      wpList P l0.toArray Q (l0.drop m) a W → wpAny P .any l0.toArray Q fuel listed a W := by
  intro k
  induction k with
  | zero =>
    intro m listed a W fuel _ hmk _ hsz _ _ hlst _ h
    have hr : Region.ready .any l0.toArray listed = [] := by
      cases hr : Region.ready .any l0.toArray listed with
      | nil => rfl
      | cons i r =>
        have := (mem_ready (md := .any) (ops := l0.toArray) (listed := listed) (j := i)).1 (by rw [hr]; simp)
        have hlt := lt_of_unlisted this.1
        have h2 := (hlst i (by omega)).2 (by omega)
        have h3 := this.1
        simp [hlt] at h2 h3
        rw [h2] at h3
        cases h3
    rw [List.drop_eq_nil_of_le (show l0.length ≤ m by omega)] at h
    exact wpAny_done hr h fuel
  | succ k ih =>
    intro m listed a W fuel hnm hmk hfuel hsz hpre hcl hlst hed h
    obtain ⟨fuel, rfl⟩ : ∃ f, fuel = f + 1 := ⟨fuel - 1, by omega⟩
    have hml : m < l0.length := by omega
    have ho : l0[m]? = some l0[m] := List.getElem?_eq_getElem hml
    have hun : listed.getD m true = false := by
      rcases listed_cases (listed := listed) (i := m) (by omega) with h1 | h1
      · have := (hlst m hml).1 h1; omega
      · exact h1
    have hready : m ∈ Region.ready .any l0.toArray listed := by
      rw [mem_ready]
      exact ⟨hun, _, by simp [hml], fun e he hb => (hlst e.on (by have := hed m _ ho e he hb; omega)).2 (hed m _ ho e he hb)⟩
    refine ⟨fun h0 => absurd (h0 ▸ hready) (by simp), fun i hi => ?_⟩
    have him : i = m := by
      obtain ⟨h1, o, ho', hall⟩ := mem_ready.1 hi
      have hlt := lt_of_unlisted h1
      rcases Nat.lt_trichotomy i m with hlt' | he | hgt
      · have h2 := (hlst i (by omega)).2 hlt'
        simp [hlt] at h1 h2
        rw [h2] at h1; cases h1
      · exact he
      · have ho'' : l0[i]? = some o := by simpa using ho'
        have := (htail i o (by omega) ho'' m hgt).elim (fun hp => hpre m hp) (listed_anc hcl 16 o m hall)
        have := (hlst m hml).1 this
        omega
    subst him
    unfold wpOp
    simp only [List.getElem?_toArray, ho]
    rw [List.drop_eq_getElem_cons hml] at h
    simp only [wpList] at h
    have next : ∀ a' W', wpList P l0.toArray Q (l0.drop (i + 1)) a' W' → wpAny P .any l0.toArray Q fuel (listed.setIfInBounds i true) a' W' := by
      intro a' W' h'
      refine ih (i + 1) _ a' W' fuel (by omega) (by omega) (by omega) (by simpa using hsz) (fun j hj => getD_set_true (hpre j hj)) ?_ ?_ hed h'
      · intro j o hj hoj e he hb
        by_cases hij : i = j
        · subst hij
          rw [ho] at hoj
          cases hoj
          exact getD_set_true ((hlst e.on (by have := hed i _ ho e he hb; omega)).2 (hed i _ ho e he hb))
        · rw [getD_set_ne false hij] at hj
          exact getD_set_true (hcl j o hj hoj e he hb)
      · intro j hj
        by_cases hij : i = j
        · subst hij
          simp [show i < listed.size by omega]
        · rw [getD_set_ne false hij, hlst j hj]
          omega
    split
    · rename_i hw
      rw [if_pos hw] at h
      exact h.imp (Oper.wp_mono next) id
    · rename_i hw
      rw [if_neg hw] at h
      exact next _ _ h
structure OkSpec (pre : List Nat) (l : List Oper) (n size : Nat) : Prop where
  sel : ∀ (j : Nat) (o : Oper) cs b, l[j]? = some o → o.op ≠ .select cs b
  len : n ≤ l.length
  dst : ∀ (j : Nat) (o : Oper) (d : Tmp), l[j]? = some o → o.dst = some d → d < size
  edge : ∀ (i : Nat) (o : Oper), l[i]? = some o → ∀ e ∈ o.after, Region.binds .any e = true → e.on < i
  has : ∀ (i : Nat) (o : Oper), i < n → l[i]? = some o → o.dst.isSome = true
  look : ∀ (i : Nat) (o : Oper) (j : Nat) (oj : Oper) (d : Tmp), i < n → l[i]? = some o → l[j]? = some oj → oj.dst = some d → d ∈ o.looksAt l.toArray → j < i ∧ hasEdge o j = true
  one : ∀ (i : Nat) (o : Oper) (j : Nat) (oj : Oper) (d : Tmp), i < n → l[i]? = some o → l[j]? = some oj → oj.dst = some d → i ≠ j → o.dst ≠ some d
  tail : ∀ (i : Nat) (o : Oper), n ≤ i → l[i]? = some o → ∀ j, j < i → j ∈ pre ∨ ancB l 16 o j = true
theorem okFree_spec {n size : Nat} {l : List Oper} (h : okFree pre n size l = true) : OkSpec pre l n size := by
  simp only [okFree, Bool.and_eq_true, decide_eq_true_eq, List.all_eq_true, List.mem_range] at h
  obtain ⟨⟨⟨h1, h2⟩, h3⟩, h4⟩ := h
  have at_ : ∀ i o, l[i]? = some o → okOper pre l n i o = true := by
    intro i o ho
    have := h4 i (List.getElem?_eq_some_iff.1 ho).1
    rwa [ho] at this
  refine ⟨fun j o cs b hj => Region.noSelect_spec h1 j o cs b (by simpa using hj), h2, ?_, ?_, ?_, ?_, ?_, ?_⟩
  · intro j o d ho hd
    have := h3 o (List.mem_of_getElem? ho)
    simpa [hd] using this
  · intro i o ho e he hb
    have := at_ i o ho
    simp only [okOper, Bool.and_eq_true, List.all_eq_true, Bool.or_eq_true, Bool.not_eq_true', decide_eq_true_eq] at this
    have := this.1 e (Array.mem_toList_iff.2 he)
    rcases this with h | h
    · rw [h] at hb; cases hb
    · exact h
  · intro i o hi ho
    have := at_ i o ho
    simp only [okOper, Bool.and_eq_true, if_pos hi] at this
    exact this.2.1
  · intro i o j oj d hi ho hj hd hm
    have := at_ i o ho
    simp only [okOper, Bool.and_eq_true, if_pos hi, List.all_eq_true, List.mem_range] at this
    have := this.2.2 j (List.getElem?_eq_some_iff.1 hj).1
    simp only [hj, hd, Bool.and_eq_true, Bool.or_eq_true, Bool.not_eq_true', decide_eq_true_eq] at this
    rcases this.1 with h | h
    · have := List.contains_iff_mem.2 hm
      rw [h] at this; cases this
    · exact h
  · intro i o j oj d hi ho hj hd hne
    have := at_ i o ho
    simp only [okOper, Bool.and_eq_true, if_pos hi, List.all_eq_true, List.mem_range] at this
    have := this.2.2 j (List.getElem?_eq_some_iff.1 hj).1
    simp only [hj, hd, Bool.and_eq_true, Bool.or_eq_true, beq_iff_eq, bne_iff_ne, ne_eq] at this
    rcases this.2 with h | h
    · exact absurd h.symm hne
    · exact h
  · intro i o hi ho j hj
    have := at_ i o ho
    simp only [okOper, Bool.and_eq_true, if_neg (Nat.not_lt.2 hi), List.all_eq_true, List.mem_range] at this
    have := this.2 j hj
    rw [Bool.or_eq_true] at this
    exact this.imp (fun h => List.contains_iff_mem.1 h) id
/-- Where a region stands, whatever came first. -/
structure Midway (pre : List Nat) (l : List Oper) (specs : List FSpec) (R : World → World → Prop) (w0 : World) (a0 : Act) (listed : Array Bool) (a : Act) (W : World) : Prop where
  size : listed.size = l.length
  rel : R w0 W
  defers : a.defers = a0.defers
  tsize : a.tmps.size = a0.tmps.size
  closed : ∀ (i : Nat) (o : Oper), listed.getD i false = true → l[i]? = some o → ∀ e ∈ o.after, Region.binds .any e = true → listed.getD e.on false = true
  other : ∀ (t : Tmp), (∀ (j : Nat) (o : Oper), l[j]? = some o → listed.getD j false = true → o.dst ≠ some t) → a.tmps[t]? = a0.tmps[t]?
  fact : ∀ (j : Nat) (o : Oper) (d : Tmp) (s : FSpec), listed.getD j false = true → l[j]? = some o → o.dst = some d → specs[j]? = some s → s.ok W (a.tmps.getD d undef)
  late : ∀ (j : Nat), specs.length ≤ j → listed.getD j false = false
  pre : ∀ j ∈ pre, listed.getD j false = true
theorem Midway.value {specs : List FSpec} {a0 a : Act} {listed : Array Bool} {W : World} (m : Midway pre l0 specs R w0 a0 listed a W) {j : Nat} {o : Oper} {d : Tmp} (hj : listed.getD j false = true) (ho : l0[j]? = some o) (hd : o.dst = some d) :
    a.tmps.getD d undef = valuesOf l0 specs a j := by
  have hlt : j < specs.length := by
    rcases Nat.lt_or_ge j specs.length with h | h
    · exact h
    · rw [m.late j h] at hj; cases hj
  have hs : specs[j]? = some specs[j] := List.getElem?_eq_getElem hlt
  have := m.fact j o d _ hj ho hd hs
  generalize specs[j] = s at this hs
  cases s with
  | val c => simp only [FSpec.ok] at this; simp [valuesOf, hs, this]
  | pred Φ => simp [valuesOf, hs, ho, hd]
theorem Midway.tmp {specs : List FSpec} {a0 a : Act} {listed : Array Bool} {W : World} (m : Midway pre l0 specs R w0 a0 listed a W) (ok : OkSpec pre l0 specs.length a0.tmps.size) (k t : Nat) (hk : k ≤ specs.length)
    (h : ∀ (j : Nat) (oj : Oper), l0[j]? = some oj → oj.dst = some t → j < k ∧ listed.getD j false = true) : (frameAt a0 l0 (valuesOf l0 specs a) k).tmps[t]? = a.tmps[t]? := by
  by_cases hex : ∃ (j : Nat) (oj : Oper), l0[j]? = some oj ∧ oj.dst = some t
  · obtain ⟨j, oj, hj, hd⟩ := hex
    obtain ⟨hjk, hlj⟩ := h j oj hj hd
    have ht := ok.dst j oj t hj hd
    rw [frameAt_own a0 l0 _ k t j oj hjk hj hd ht fun i o' hne ho' hd' => by
      rcases Nat.lt_or_ge i specs.length with hi | hi
      · exact ok.one i o' j oj t hi ho' hj hd hne hd'
      · exact ok.one j oj i o' t (by omega) hj ho' hd' (Ne.symm hne) hd]
    rw [← m.value hlj hj hd]
    have : t < a.tmps.size := by rw [m.tsize]; exact ht
    simp [this]
  · rw [frameAt_other a0 l0 _ k t fun j o _ ho hd => hex ⟨j, o, ho, hd⟩, m.other t fun j o ho _ hd => hex ⟨j, o, ho, hd⟩]
/-- One operation more, none of the tail. -/
theorem Midway.step {specs : List FSpec} {a0 a : Act} {listed : Array Bool} {W : World} (m : Midway pre l0 specs R w0 a0 listed a W) (ok : OkSpec pre l0 specs.length a0.tmps.size) (hrf : ∀ a, R a a) (htr : ∀ a b c, R a b → R b c → R a c)
    (hst : ∀ s ∈ specs, ∀ W W' v, R W W' → s.ok W v → s.ok W' v) (h : freeSteps P l0 R w0 Q 0 specs l0 a0 []) {i : Nat} (hi : i < specs.length) (hr : i ∈ Region.ready .any l0.toArray listed) :
    wpOp P l0.toArray Q i (fun a' W' => Midway pre l0 specs R w0 a0 (listed.setIfInBounds i true) a' W') a W := by
  obtain ⟨hun, o, ho', hedge⟩ := mem_ready.1 hr
  have ho : l0[i]? = some o := by simpa using ho'
  have hil : i < l0.length := (List.getElem?_eq_some_iff.1 ho).1
  have hlt : i < listed.size := by rw [m.size]; exact hil
  have hat := steps_at h (valuesOf l0 specs a) (valuesOf_fits l0 specs a) i (by omega)
  rw [List.drop_eq_getElem_cons hi, List.drop_eq_getElem_cons hil] at hat
  have hs : specs[i]? = some specs[i] := List.getElem?_eq_getElem hi
  have hoi : l0[i] = o := by
    have := List.getElem?_eq_getElem hil
    rw [ho] at this
    exact (Option.some.inj this).symm
  rw [hoi] at hat
  have hfacts : ∀ p ∈ factsAt specs (valuesOf l0 specs a) i, leans l0 o p.1 = true → p.2.1.ok W p.2.2 := by
    intro p hp hl
    obtain ⟨h1, h2, h3⟩ := mem_factsAt hp
    unfold leans at hl
    split at hl
    · rename_i d hd
      obtain ⟨oj, hj, hdj⟩ := Option.bind_eq_some_iff.1 hd
      have hlook := ok.look i o p.1 oj d hi ho hj hdj (List.contains_iff_mem.1 hl)
      have hlj : listed.getD p.1 false = true := listed_anc (l0 := l0) m.closed 0 o p.1 hedge hlook.2
      have := m.fact p.1 oj d p.2.1 hlj hj hdj h2
      rw [h3, ← m.value hlj hj hdj]
      exact this
    · cases hl
  have hsame : ∀ t, t ∈ o.looksAt l0.toArray → (frameAt a0 l0 (valuesOf l0 specs a) i).tmps[t]? = a.tmps[t]? := by
    intro t ht
    refine m.tmp ok i t (by omega) fun j oj hj hdj => ?_
    have hlook := ok.look i o j oj t hi ho hj hdj ht
    exact ⟨hlook.1, listed_anc (l0 := l0) m.closed 0 o j hedge hlook.2⟩
  have hev : execOp (frameAt a0 l0 (valuesOf l0 specs a) i).eval o = execOp a.eval o := eval_of_tmps o (fun cs b => ok.sel i o cs b ho) hsame
  have hwa : Region.wanted o (yielded l0.toArray (frameAt a0 l0 (valuesOf l0 specs a) i).tmps) = Region.wanted o (yielded l0.toArray a.tmps) := wanted_of_tmps o hsame
  -- what is left to show of each value
  have next : ∀ W' v, R W W' → specs[i].ok W' v → Midway pre l0 specs R w0 a0 (listed.setIfInBounds i true) (a.put o.dst v) W' := by
    intro W' v hR hv
    refine ⟨by simpa using m.size, htr _ _ _ m.rel hR, ?_, ?_, ?_, ?_, ?_, ?_, fun j hj => getD_set_true (m.pre j hj)⟩
    · rw [← m.defers]; cases o.dst <;> rfl
    · rw [← m.tsize]; cases hd : o.dst <;> simp [Act.put]
    · intro j oj hj hoj e he hb
      by_cases hij : i = j
      · subst hij
        rw [ho] at hoj; cases hoj
        exact getD_set_true (hedge e he hb)
      · rw [getD_set_ne false hij] at hj
        exact getD_set_true (m.closed j oj hj hoj e he hb)
    · intro t ht
      have hne : o.dst ≠ some t := ht i o ho (by simp [hlt])
      rw [← m.other t fun j oj hoj hj => ht j oj hoj (by
        by_cases hij : i = j
        · subst hij; simp [hlt]
        · rw [getD_set_ne false hij]; exact hj)]
      cases hd : o.dst with
      | none => rfl
      | some d =>
        have : d ≠ t := fun e => hne (by rw [hd, e])
        simp [Act.put, Array.getElem?_setIfInBounds_ne this]
    · intro j oj d s hj hoj hdj hsj
      by_cases hij : i = j
      · subst hij
        rw [ho] at hoj; cases hoj
        rw [hs] at hsj; cases hsj
        have hsz : d < a.tmps.size := by rw [m.tsize]; exact ok.dst i _ d ho hdj
        simpa [Act.put, hdj, hsz] using hv
      · rw [getD_set_ne false hij] at hj
        have hf := m.fact j oj d s hj hoj hdj hsj
        have hf := hst s (List.mem_of_getElem? hsj) _ _ _ hR hf
        have hnd : o.dst ≠ some d := ok.one i o j oj d hi ho hoj hdj hij
        cases hd : o.dst with
        | none => simpa [Act.put] using hf
        | some e =>
          have : e ≠ d := fun e' => hnd (by rw [hd, e'])
          simpa [Act.put, Array.getElem?_setIfInBounds_ne this] using hf
    · intro j hj
      rw [getD_set_ne false (show i ≠ j by omega)]
      exact m.late j hj
  unfold wpOp
  simp only [List.getElem?_toArray, ho]
  generalize hsp : specs[i] = s at hat next
  cases s with
  | val c =>
    simp only [freeSteps] at hat
    have hone := hat.1 W m.rel (factsHold_of hfacts)
    rw [hwa, hev] at hone
    split
    · rename_i hw
      rw [if_pos hw] at hone
      refine .inl (upon_of_gives hone fun w' v hv => next _ _ hv.1 hv.2)
    · rename_i hw
      rw [if_neg hw] at hone
      exact next W undef (hrf W) hone
  | pred Φ =>
    simp only [freeSteps] at hat
    have hone := hat.1 W m.rel (factsHold_of hfacts)
    rw [hwa, hev] at hone
    split
    · rename_i hw
      rw [if_pos hw] at hone
      refine .inl (upon_of_gives hone fun w' v hv => next _ _ hv.1 hv.2)
    · rename_i hw
      rw [if_neg hw] at hone
      exact next W undef (hrf W) hone
/-- All of the front is done, and nothing else: the frame is the lexical walk's. -/
theorem Midway.done {specs : List FSpec} {a0 a : Act} {listed : Array Bool} {W : World} (m : Midway pre l0 specs R w0 a0 listed a W) (ok : OkSpec pre l0 specs.length a0.tmps.size) (hall : ∀ j, j < specs.length → listed.getD j false = true) :
    a = frameAt a0 l0 (valuesOf l0 specs a) specs.length ∧ ∀ p ∈ factsAt specs (valuesOf l0 specs a) specs.length, p.2.1.ok W p.2.2 := by
  refine ⟨?_, fun p hp => ?_⟩
  · obtain ⟨tm, df⟩ := a
    have hdf := frameAt_defers a0 l0 (valuesOf l0 specs ⟨tm, df⟩) specs.length
    have htm : tm = (frameAt a0 l0 (valuesOf l0 specs ⟨tm, df⟩) specs.length).tmps := by
      refine Array.ext_getElem? fun t => ?_
      by_cases hex : ∃ (j : Nat) (oj : Oper), l0[j]? = some oj ∧ oj.dst = some t ∧ specs.length ≤ j
      · obtain ⟨j, oj, hj, hd, hge⟩ := hex
        by_cases hin : ∃ (i : Nat) (oi : Oper), l0[i]? = some oi ∧ oi.dst = some t ∧ i < specs.length
        · obtain ⟨i, oi, hi, hdi, hlt⟩ := hin
          exact absurd hdi (ok.one i oi j oj t hlt hi hj hd (by omega))
        · rw [frameAt_other a0 l0 _ _ t fun i o hi ho hd' => hin ⟨i, o, ho, hd', hi⟩]
          refine m.other t fun i o ho hl hd' => ?_
          rcases Nat.lt_or_ge i specs.length with h | h
          · exact hin ⟨i, o, ho, hd', h⟩
          · rw [m.late i h] at hl; cases hl
      · refine (m.tmp ok specs.length t (Nat.le_refl _) fun j oj hj hd => ?_).symm
        have hlt : j < specs.length := by
          rcases Nat.lt_or_ge j specs.length with h | h
          · exact h
          · exact absurd ⟨j, oj, hj, hd, h⟩ hex
        exact ⟨hlt, hall j hlt⟩
    have h1 : (frameAt a0 l0 (valuesOf l0 specs ⟨tm, df⟩) specs.length).defers = df := by rw [hdf, ← m.defers]
    generalize frameAt a0 l0 (valuesOf l0 specs ⟨tm, df⟩) specs.length = f at htm h1
    obtain ⟨ft, fd⟩ := f
    simp only at htm h1
    rw [htm, h1]
  · obtain ⟨h1, h2, h3⟩ := mem_factsAt hp
    have hil : p.1 < l0.length := by have := ok.len; omega
    have ho : l0[p.1]? = some l0[p.1] := List.getElem?_eq_getElem hil
    rw [h3]
    cases hd : l0[p.1].dst with
    | some d =>
      rw [← m.value (hall p.1 h1) ho hd]
      exact m.fact p.1 _ d _ (hall p.1 h1) ho hd h2
    | none =>
      have := ok.has p.1 _ h1 ho
      simp [hd] at this
theorem free_any {specs : List FSpec} {a0 : Act} (ok : OkSpec pre l0 specs.length a0.tmps.size) (hrf : ∀ a, R a a) (htr : ∀ a b c, R a b → R b c → R a c)
    (hst : ∀ s ∈ specs, ∀ W W' v, R W W' → s.ok W v → s.ok W' v) (h : freeSteps P l0 R w0 Q 0 specs l0 a0 []) :
    ∀ (fuel : Nat) (listed : Array Bool) (a : Act) (W : World), left l0 listed ≤ fuel → Midway pre l0 specs R w0 a0 listed a W → wpAny P .any l0.toArray Q fuel listed a W := by
  have fin : ∀ (listed : Array Bool) (a : Act) (W : World), Midway pre l0 specs R w0 a0 listed a W → (∀ j, j < specs.length → listed.getD j false = true) → wpList P l0.toArray Q (l0.drop specs.length) a W := by
    intro listed a W m hall
    obtain ⟨he, hf⟩ := m.done ok hall
    have hat := steps_at h (valuesOf l0 specs a) (valuesOf_fits l0 specs a) specs.length (Nat.le_refl _)
    rw [List.drop_length] at hat
    simp only [freeSteps] at hat
    have := hat W m.rel (factsHold_of fun p hp _ => hf p hp)
    rwa [← he] at this
  have hlst : ∀ (listed : Array Bool) (a : Act) (W : World), Midway pre l0 specs R w0 a0 listed a W → (∀ j, j < specs.length → listed.getD j false = true) → ∀ i, i < l0.length → (listed.getD i false = true ↔ i < specs.length) := by
    intro listed a W m hall i hi
    constructor
    · intro hl
      rcases Nat.lt_or_ge i specs.length with h | h
      · exact h
      · rw [m.late i h] at hl; cases hl
    · exact hall i
  intro fuel
  induction fuel with
  | zero =>
    intro listed a W hl m
    have hnone : ∀ i, i < l0.length → listed.getD i true = true := by
      intro i hi
      have h0 : ((List.range l0.length).filter fun i => !listed.getD i true) = [] := List.eq_nil_of_length_eq_zero (by unfold left at hl; omega)
      have := List.filter_eq_nil_iff.1 h0 i (List.mem_range.2 hi)
      simpa using this
    have hall : ∀ j, j < specs.length → listed.getD j false = true := by
      intro j hj
      have h1 := hnone j (by have := ok.len; omega)
      rcases listed_cases (listed := listed) (i := j) (by rw [m.size]; have := ok.len; omega) with h2 | h2
      · exact h2
      · rw [h2] at h1; cases h1
    have hn : specs.length = l0.length := by
      rcases Nat.lt_or_ge specs.length l0.length with h1 | h1
      · have h2 := hnone specs.length h1
        have h3 := m.late specs.length (Nat.le_refl _)
        rcases listed_cases (listed := listed) (i := specs.length) (by rw [m.size]; exact h1) with h4 | h4
        · rw [h4] at h3; cases h3
        · rw [h4] at h2; cases h2
      · have := ok.len; omega
    exact tail_forced ok.tail 0 specs.length listed a W 0 (Nat.le_refl _) hn (Nat.le_refl _) m.size m.pre m.closed (hlst _ _ _ m hall) ok.edge (fin _ _ _ m hall)
  | succ fuel ih =>
    intro listed a W hl m
    by_cases hall : ∀ j, j < specs.length → listed.getD j false = true
    · refine tail_forced ok.tail (l0.length - specs.length) specs.length listed a W (fuel + 1) (Nat.le_refl _) (by have := ok.len; omega) ?_ m.size m.pre m.closed (hlst _ _ _ m hall) ok.edge (fin _ _ _ m hall)
      have := left_ge (l := l0) (listed := listed) (n := specs.length) fun i h1 h2 => by
        have := m.late i h1
        have hlt : i < listed.size := by rw [m.size]; exact h2
        simpa [hlt] using this
      omega
    · refine ⟨fun h0 => ?_, fun i hi => ?_⟩
      · refine absurd (fun j => ?_) hall
        induction j using Nat.strongRecOn with
        | _ j ihj =>
          intro hj
          have hjl : j < l0.length := by have := ok.len; omega
          have hoj : l0[j]? = some l0[j] := List.getElem?_eq_getElem hjl
          rcases listed_cases (listed := listed) (i := j) (by rw [m.size]; exact hjl) with h1 | h1
          · exact h1
          · have hm : j ∈ Region.ready .any l0.toArray listed := mem_ready.2 ⟨h1, l0[j], by simp [hjl], fun e he hb => by
              have := ok.edge j _ hoj e he hb
              exact ihj e.on this (by omega)⟩
            rw [h0] at hm
            cases hm
      · obtain ⟨hun, o, ho', hedge⟩ := mem_ready.1 hi
        have hil : i < l0.length := by have := lt_of_unlisted hun; rw [m.size] at this; exact this
        have hn : i < specs.length := by
          rcases Nat.lt_or_ge i specs.length with h1 | h1
          · exact h1
          · exact absurd (fun j hj => (ok.tail i o h1 (by simpa using ho') j (by omega)).elim (fun hp => m.pre j hp) (listed_anc m.closed 16 o j hedge)) hall
        exact wpOp_mono (fun a' W' m' => ih _ a' W' (by have := left_set hil hun; omega) m') (m.step ok hrf htr hst h hn hi)
end
end Go.Proofs.YtjelnmokcpoofaaGreatDoor.Pre
namespace Go.Proofs.YtjelnmokcpoofaaGreatDoor
set_option maxRecDepth 100000
open Go Go.RowKit Go.Proofs
theorem st_fracR {ss : List FSpec} (q : Rat) (h : StableAll Ext ss) : StableAll Ext (.pred (fun W v => FracR W v q) :: ss) := ⟨fun _ _ _ e h => FracR.ext h e, h⟩
end Go.Proofs.YtjelnmokcpoofaaGreatDoor
namespace Go.Proofs.YtjelnmokcpoofaaGreatDoor
set_option maxRecDepth 100000
open Go Go.RowKit Go.Proofs
theorem row16_cells {w : World} {g T : Nat} {c : Array Value} (h : w.heap[g]? = some (.cells c T (0, 0))) (k : Nat) : w.cell? ⟨g, k, none⟩ = c[k]? := by simp [World.cell?, h]
end Go.Proofs.YtjelnmokcpoofaaGreatDoor
namespace Go.Proofs.YtjelnmokcpoofaaGreatDoor
set_option maxRecDepth 100000
open Go Go.RowKit Go.Proofs
/-- A world whose blocks are as they were but for some. -/
structure Chg (w w' : World) (S : Nat → Prop) : Prop where
  os : w'.os = w.os
  tape : w'.tape = w.tape
  output : w'.output = w.output
  size : w.heap.size ≤ w'.heap.size
  block : ∀ k, k < w.heap.size → ¬ S k → w'.heap[k]? = w.heap[k]?
theorem Chg.refl (w : World) (S : Nat → Prop) : Chg w w S := ⟨rfl, rfl, rfl, Nat.le_refl _, fun _ _ _ => rfl⟩
theorem Chg.trans {a b c : World} {S : Nat → Prop} (h : Chg a b S) (k : Chg b c S) : Chg a c S :=
  ⟨k.os.trans h.os, k.tape.trans h.tape, k.output.trans h.output, Nat.le_trans h.size k.size, fun i hi hs => (k.block i (Nat.lt_of_lt_of_le hi h.size) hs).trans (h.block i hi hs)⟩
theorem Chg.mono {a b : World} {S T : Nat → Prop} (h : Chg a b S) (hs : ∀ k, k < a.heap.size → S k → T k) : Chg a b T :=
  ⟨h.os, h.tape, h.output, h.size, fun i hi hn => h.block i hi fun x => hn (hs i hi x)⟩
theorem Chg.grown {a b : World} {row : Option Nat} (h : a.grownBy b row) : Chg a b (fun k => some k = row) :=
  ⟨h.os, h.tape, h.output, h.size, h.block⟩
theorem Chg.row {w w' : World} {S : Nat → Prop} (h : Chg w w' S) {base E sz n : Nat} {v : Value} {xs : List Value} (ho : w.ownsRow base E sz v n xs) (hs : ∀ g, v.ownBlock = some g → ¬ S g) : w'.ownsRow base E sz v n xs := by
  refine ⟨ho.1, ?_⟩
  rcases ho.2 with hn | ⟨g, cap, cur, rfl, hb, hgg, rest⟩
  · exact .inl hn
  · refine .inr ⟨g, cap, cur, rfl, hb, ?_, rest⟩
    rw [h.block g (Array.getElem?_eq_some_iff.1 hgg).1 (hs g rfl)]
    exact hgg
theorem Chg.ext {w w' : World} {S : Nat → Prop} (h : Chg w w' S) (b : World) (hb : Ext b w) (hs : ∀ k, k < b.heap.size → ¬ S k) : Ext b w' :=
  ⟨h.os.trans hb.os, h.tape.trans hb.tape, h.output.trans hb.output, Nat.le_trans hb.size h.size, fun k hk => (h.block k (Nat.lt_of_lt_of_le hk hb.size) (hs k hk)).trans (hb.block k hk)⟩
theorem Chg.of_ext {w w' : World} (h : Ext w w') (S : Nat → Prop) : Chg w w' S := ⟨h.os, h.tape, h.output, h.size, fun k hk _ => h.block k hk⟩
/-- The first places marked. -/
def part (m : Value) (xs : List Value) (k : Nat) : List Value := List.replicate k m ++ xs.drop k
end Go.Proofs.YtjelnmokcpoofaaGreatDoor
namespace Go.Proofs.YtjelnmokcpoofaaGreatDoor
set_option maxRecDepth 100000
open Go Go.RowKit Go.Proofs
/-- Are two raw numbers alike? -/
def eqI (b b' : Bool) (l l' : List Nat) : Bool := decide (b = b' ∧ l = l')
theorem eqI_self (b : Bool) (l : List Nat) : eqI b b l l = true := by simp [eqI]
/-- A raw fraction's two rows. -/
def RawL (w : World) (b1 : Bool) (a1 : Option Addr) (l1 : List Nat) (c1 : Nat) (b2 : Bool) (a2 : Option Addr) (l2 : List Nat) (c2 : Nat) : Prop :=
  l1.length ≤ 4294967296 ∧ l2.length ≤ 4294967296 ∧ AnyR w (.agg #[.bool b1, .slice a1 l1.length c1]) b1 l1 ∧ AnyR w (.agg #[.bool b2, .slice a2 l2.length c2]) b2 l2
theorem RawL.ext {w w' : World} {b1 : Bool} {a1 : Option Addr} {l1 : List Nat} {c1 : Nat} {b2 : Bool} {a2 : Option Addr} {l2 : List Nat} {c2 : Nat} (h : RawL w b1 a1 l1 c1 b2 a2 l2 c2) (e : Ext w w') : RawL w' b1 a1 l1 c1 b2 a2 l2 c2 := ⟨h.1, h.2.1, h.2.2.1.ext e, h.2.2.2.ext e⟩
set_option maxRecDepth 100000 in
set_option maxHeartbeats 3200000 in
theorem sameFrac_l (b1 : Bool) (a1 : Option Addr) (l1 : List Nat) (c1 : Nat) (b2 : Bool) (a2 : Option Addr) (l2 : List Nat) (c2 : Nat) (b1' : Bool) (a1' : Option Addr) (l1' : List Nat) (c1' : Nat) (b2' : Bool) (a2' : Option Addr) (l2' : List Nat) (c2' : Nat) (w : World) (h : RawL w b1 a1 l1 c1 b2 a2 l2 c2) (h' : RawL w b1' a1' l1' c1' b2' a2' l2' c2') :
    Calls Tryz.prog 94 #[.agg #[.bool b1, .slice a1 l1.length c1, .bool b2, .slice a2 l2.length c2], .agg #[.bool b1', .slice a1' l1'.length c1', .bool b2', .slice a2' l2'.length c2']] w fun e w' => e = .returned (.bool (eqI b1 b1' l1 l1' && eqI b2 b2' l2 l2')) ∧ Ext w w' := by
  have k1 := mkHid (fun W (e : Ext w W) => sameInt_c _ _ b1 b1' l1 l1' W h.1 h'.1 (h.2.2.1.ext e) (h'.2.2.1.ext e))
  have k2 := mkHid (fun W (e : Ext w W) => sameInt_c _ _ b2 b2' l2 l2' W h.2.1 h'.2.1 (h.2.2.2.ext e) (h'.2.2.2.ext e))
  clear h h'
  change Hid (∀ W (e : Ext w W), Calls _ _ _ _ fun e w' => e = .returned (.bool (eqI b1 b1' l1 l1')) ∧ _) at k1
  change Hid (∀ W (e : Ext w W), Calls _ _ _ _ fun e w' => e = .returned (.bool (eqI b2 b2' l2 l2')) ∧ _) at k2
  generalize eqI b1 b1' l1 l1' = r1 at *
  generalize eqI b2 b2' l2 l2' = r2 at *
  generalize l1.length = n1 at *
  generalize l2.length = n2 at *
  generalize l1'.length = n1' at *
  generalize l2'.length = n2' at *
  obtain ⟨wb, hwb⟩ : ∃ wb, wb = (w.alloc (.cells #[.bool b1, .slice a1 n1 c1, .bool b2, .slice a2 n2 c2] 52)).alloc (.cells #[.bool b1', .slice a1' n1' c1', .bool b2', .slice a2' n2' c2'] 52) := ⟨_, rfl⟩
  have hE : Ext w wb := by rw [hwb]; exact ((Ext.refl w).al _).al _
  have z0 : wb.heap[w.heap.size]? = some (.cells #[.bool b1, .slice a1 n1 c1, .bool b2, .slice a2 n2 c2] 52 (0, 0)) := by rw [hwb]; exact (heap_alloc_old _ _ (by simp)).trans (heap_alloc_new _ _)
  have z1 : wb.heap[w.heap.size + 1]? = some (.cells #[.bool b1', .slice a1' n1' c1', .bool b2', .slice a2' n2' c2'] 52 (0, 0)) := by rw [hwb]; exact heap_at _ _ _ (by simp)
  replace hwb := mkHid hwb
  replace z0 := mkHid z0
  replace z1 := mkHid z1
  replace hE := mkHid hE
  go_enter Tryz.func94, Tryz.ntmps94
  go_wp2_with fail
  rw [← hwb.out]
  clear hwb
  refine (k1.out _ hE.out).mono ?_
  rintro e w1 ⟨rfl, hE1⟩
  replace z0 := mkHid (hE1.blk z0.out)
  replace z1 := mkHid (hE1.blk z1.out)
  replace hE := mkHid (hE.out.trans hE1)
  clear hE1
  cases r1
  · go_wp2_with fail
    go_ret
    exact ⟨rfl, hE.out⟩
  · have y2 : w1.cell? ⟨w.heap.size, 2, none⟩ = some (.bool b2) := row16_cells z0.out 2
    have x2 : w1.cell? ⟨w.heap.size + 1, 2, none⟩ = some (.bool b2') := row16_cells z1.out 2
    have y3 : w1.cell? ⟨w.heap.size, 3, none⟩ = some (.slice a2 n2 c2) := row16_cells z0.out 3
    have x3 : w1.cell? ⟨w.heap.size + 1, 3, none⟩ = some (.slice a2' n2' c2') := row16_cells z1.out 3
    go_wp2_with fail
    clear x2 y2 x3 y3
    refine (k2.out _ hE.out).mono ?_
    rintro e w2 ⟨rfl, hE2⟩
    replace z0 := mkHid (hE2.blk z0.out)
    replace z1 := mkHid (hE2.blk z1.out)
    replace hE := mkHid (hE.out.trans hE2)
    clear hE2
    go_wp2_with fail
    go_ret
    exact ⟨rfl, hE.out⟩
set_option maxRecDepth 100000 in
set_option maxHeartbeats 3200000 in
theorem sameElement_l (kd kd' : Int) (b1 : Bool) (a1 : Option Addr) (l1 : List Nat) (c1 : Nat) (b2 : Bool) (a2 : Option Addr) (l2 : List Nat) (c2 : Nat) (b3 : Bool) (a3 : Option Addr) (l3 : List Nat) (c3 : Nat) (b4 : Bool) (a4 : Option Addr) (l4 : List Nat) (c4 : Nat) (b1' : Bool) (a1' : Option Addr) (l1' : List Nat) (c1' : Nat) (b2' : Bool) (a2' : Option Addr) (l2' : List Nat) (c2' : Nat) (b3' : Bool) (a3' : Option Addr) (l3' : List Nat) (c3' : Nat) (b4' : Bool) (a4' : Option Addr) (l4' : List Nat) (c4' : Nat) (w : World) (h1 : RawL w b1 a1 l1 c1 b2 a2 l2 c2) (h2 : RawL w b3 a3 l3 c3 b4 a4 l4 c4) (h1' : RawL w b1' a1' l1' c1' b2' a2' l2' c2') (h2' : RawL w b3' a3' l3' c3' b4' a4' l4' c4') :
    Calls Tryz.prog 54 #[.agg #[.int .u8 kd, .bool b1, .slice a1 l1.length c1, .bool b2, .slice a2 l2.length c2, .bool b3, .slice a3 l3.length c3, .bool b4, .slice a4 l4.length c4], .agg #[.int .u8 kd', .bool b1', .slice a1' l1'.length c1', .bool b2', .slice a2' l2'.length c2', .bool b3', .slice a3' l3'.length c3', .bool b4', .slice a4' l4'.length c4']] w fun e w' => e = .returned (.bool ((kd == kd') && (eqI b1 b1' l1 l1' && eqI b2 b2' l2 l2' && (eqI b3 b3' l3 l3' && eqI b4 b4' l4 l4')))) ∧ Ext w w' := by
  have k1 := mkHid (fun W (e : Ext w W) => sameFrac_l b1 a1 l1 c1 b2 a2 l2 c2 b1' a1' l1' c1' b2' a2' l2' c2' W (h1.ext e) (h1'.ext e))
  have k2 := mkHid (fun W (e : Ext w W) => sameFrac_l b3 a3 l3 c3 b4 a4 l4 c4 b3' a3' l3' c3' b4' a4' l4' c4' W (h2.ext e) (h2'.ext e))
  clear h1 h2 h1' h2'
  generalize (eqI b1 b1' l1 l1' && eqI b2 b2' l2 l2') = r1 at *
  generalize (eqI b3 b3' l3 l3' && eqI b4 b4' l4 l4') = r2 at *
  generalize l1.length = n1 at *
  generalize l1'.length = n1' at *
  generalize l2.length = n2 at *
  generalize l2'.length = n2' at *
  generalize l3.length = n3 at *
  generalize l3'.length = n3' at *
  generalize l4.length = n4 at *
  generalize l4'.length = n4' at *
  obtain ⟨wb, hwb⟩ : ∃ wb, wb = (w.alloc (.cells #[.int .u8 kd, .bool b1, .slice a1 n1 c1, .bool b2, .slice a2 n2 c2, .bool b3, .slice a3 n3 c3, .bool b4, .slice a4 n4 c4] 54)).alloc (.cells #[.int .u8 kd', .bool b1', .slice a1' n1' c1', .bool b2', .slice a2' n2' c2', .bool b3', .slice a3' n3' c3', .bool b4', .slice a4' n4' c4'] 54) := ⟨_, rfl⟩
  have hE : Ext w wb := by rw [hwb]; exact ((Ext.refl w).al _).al _
  have z0 : wb.heap[w.heap.size]? = some (.cells #[.int .u8 kd, .bool b1, .slice a1 n1 c1, .bool b2, .slice a2 n2 c2, .bool b3, .slice a3 n3 c3, .bool b4, .slice a4 n4 c4] 54 (0, 0)) := by rw [hwb]; exact (heap_alloc_old _ _ (by simp)).trans (heap_alloc_new _ _)
  have z1 : wb.heap[w.heap.size + 1]? = some (.cells #[.int .u8 kd', .bool b1', .slice a1' n1' c1', .bool b2', .slice a2' n2' c2', .bool b3', .slice a3' n3' c3', .bool b4', .slice a4' n4' c4'] 54 (0, 0)) := by rw [hwb]; exact heap_at _ _ _ (by simp)
  replace hwb := mkHid hwb
  replace z0 := mkHid z0
  replace z1 := mkHid z1
  replace hE := mkHid hE
  obtain ⟨rk, hrk⟩ : ∃ r, r = (kd == kd') := ⟨_, rfl⟩
  rw [← hrk]
  cases rk
  · have hne : (kd == kd') = false := hrk.symm
    clear hrk
    go_enter Tryz.func54, Tryz.ntmps54
    go_wp2_with fail
    rw [← hwb.out]
    go_ret
    exact ⟨rfl, hE.out⟩
  have hkk : kd = kd' := by simpa using hrk.symm
  subst hkk
  clear hrk
  go_enter Tryz.func54, Tryz.ntmps54
  go_wp2_with fail
  rw [← hwb.out]
  clear hwb
  refine (k1.out _ hE.out).mono ?_
  rintro e w1 ⟨rfl, hE1⟩
  replace z0 := mkHid (hE1.blk z0.out)
  replace z1 := mkHid (hE1.blk z1.out)
  replace hE := mkHid (hE.out.trans hE1)
  clear hE1
  cases r1
  · go_wp2_with fail
    go_ret
    exact ⟨rfl, hE.out⟩
  · have y5 : w1.cell? ⟨w.heap.size, 5, none⟩ = some (.bool b3) := row16_cells z0.out 5
    have x5 : w1.cell? ⟨w.heap.size + 1, 5, none⟩ = some (.bool b3') := row16_cells z1.out 5
    have y6 : w1.cell? ⟨w.heap.size, 6, none⟩ = some (.slice a3 n3 c3) := row16_cells z0.out 6
    have x6 : w1.cell? ⟨w.heap.size + 1, 6, none⟩ = some (.slice a3' n3' c3') := row16_cells z1.out 6
    have y7 : w1.cell? ⟨w.heap.size, 7, none⟩ = some (.bool b4) := row16_cells z0.out 7
    have x7 : w1.cell? ⟨w.heap.size + 1, 7, none⟩ = some (.bool b4') := row16_cells z1.out 7
    have y8 : w1.cell? ⟨w.heap.size, 8, none⟩ = some (.slice a4 n4 c4) := row16_cells z0.out 8
    have x8 : w1.cell? ⟨w.heap.size + 1, 8, none⟩ = some (.slice a4' n4' c4') := row16_cells z1.out 8
    go_wp2_with fail
    clear x5 y5 x6 y6 x7 y7 x8 y8
    refine (k2.out _ hE.out).mono ?_
    rintro e w2 ⟨rfl, hE2⟩
    replace z0 := mkHid (hE2.blk z0.out)
    replace z1 := mkHid (hE2.blk z1.out)
    replace hE := mkHid (hE.out.trans hE2)
    clear hE2
    go_wp2_with fail
    go_ret
    exact ⟨rfl, hE.out⟩
set_option maxRecDepth 100000 in
set_option maxHeartbeats 3200000 in
theorem samePart_l (nm nm' : ByteArray) (kd kd' co co' : Int) (b1 : Bool) (a1 : Option Addr) (l1 : List Nat) (c1 : Nat) (b2 : Bool) (a2 : Option Addr) (l2 : List Nat) (c2 : Nat) (b3 : Bool) (a3 : Option Addr) (l3 : List Nat) (c3 : Nat) (b4 : Bool) (a4 : Option Addr) (l4 : List Nat) (c4 : Nat) (b1' : Bool) (a1' : Option Addr) (l1' : List Nat) (c1' : Nat) (b2' : Bool) (a2' : Option Addr) (l2' : List Nat) (c2' : Nat) (b3' : Bool) (a3' : Option Addr) (l3' : List Nat) (c3' : Nat) (b4' : Bool) (a4' : Option Addr) (l4' : List Nat) (c4' : Nat) (w : World) (h1 : RawL w b1 a1 l1 c1 b2 a2 l2 c2) (h2 : RawL w b3 a3 l3 c3 b4 a4 l4 c4) (h1' : RawL w b1' a1' l1' c1' b2' a2' l2' c2') (h2' : RawL w b3' a3' l3' c3' b4' a4' l4' c4') :
    Calls Tryz.prog 25 #[.agg #[.string nm, .int .u8 kd, .bool b1, .slice a1 l1.length c1, .bool b2, .slice a2 l2.length c2, .bool b3, .slice a3 l3.length c3, .bool b4, .slice a4 l4.length c4, .int .i64 co], .agg #[.string nm', .int .u8 kd', .bool b1', .slice a1' l1'.length c1', .bool b2', .slice a2' l2'.length c2', .bool b3', .slice a3' l3'.length c3', .bool b4', .slice a4' l4'.length c4', .int .i64 co']] w fun e w' => e = .returned (.bool ((nm.toList == nm'.toList) && ((kd == kd') && (eqI b1 b1' l1 l1' && eqI b2 b2' l2 l2' && (eqI b3 b3' l3 l3' && eqI b4 b4' l4 l4'))) && (co == co'))) ∧ Ext w w' := by
  have k1 := mkHid (fun W (e : Ext w W) => sameElement_l kd kd' b1 a1 l1 c1 b2 a2 l2 c2 b3 a3 l3 c3 b4 a4 l4 c4 b1' a1' l1' c1' b2' a2' l2' c2' b3' a3' l3' c3' b4' a4' l4' c4' W (h1.ext e) (h2.ext e) (h1'.ext e) (h2'.ext e))
  clear h1 h2 h1' h2'
  generalize ((kd == kd') && (eqI b1 b1' l1 l1' && eqI b2 b2' l2 l2' && (eqI b3 b3' l3 l3' && eqI b4 b4' l4 l4'))) = r1 at *
  generalize l1.length = n1 at *
  generalize l1'.length = n1' at *
  generalize l2.length = n2 at *
  generalize l2'.length = n2' at *
  generalize l3.length = n3 at *
  generalize l3'.length = n3' at *
  generalize l4.length = n4 at *
  generalize l4'.length = n4' at *
  obtain ⟨wb, hwb⟩ : ∃ wb, wb = (w.alloc (.cells #[.string nm, .int .u8 kd, .bool b1, .slice a1 n1 c1, .bool b2, .slice a2 n2 c2, .bool b3, .slice a3 n3 c3, .bool b4, .slice a4 n4 c4, .int .i64 co] 56)).alloc (.cells #[.string nm', .int .u8 kd', .bool b1', .slice a1' n1' c1', .bool b2', .slice a2' n2' c2', .bool b3', .slice a3' n3' c3', .bool b4', .slice a4' n4' c4', .int .i64 co'] 56) := ⟨_, rfl⟩
  have hE : Ext w wb := by rw [hwb]; exact ((Ext.refl w).al _).al _
  have z0 : wb.heap[w.heap.size]? = some (.cells #[.string nm, .int .u8 kd, .bool b1, .slice a1 n1 c1, .bool b2, .slice a2 n2 c2, .bool b3, .slice a3 n3 c3, .bool b4, .slice a4 n4 c4, .int .i64 co] 56 (0, 0)) := by rw [hwb]; exact (heap_alloc_old _ _ (by simp)).trans (heap_alloc_new _ _)
  have z1 : wb.heap[w.heap.size + 1]? = some (.cells #[.string nm', .int .u8 kd', .bool b1', .slice a1' n1' c1', .bool b2', .slice a2' n2' c2', .bool b3', .slice a3' n3' c3', .bool b4', .slice a4' n4' c4', .int .i64 co'] 56 (0, 0)) := by rw [hwb]; exact heap_at _ _ _ (by simp)
  replace hwb := mkHid hwb
  replace z0 := mkHid z0
  replace z1 := mkHid z1
  replace hE := mkHid hE
  obtain ⟨rk, hrk⟩ : ∃ r, r = (nm.toList == nm'.toList) := ⟨_, rfl⟩
  rw [← hrk]
  cases rk
  · have hne : (nm.toList == nm'.toList) = false := hrk.symm
    clear hrk
    go_enter Tryz.func25, Tryz.ntmps25
    go_wp2_with fail
    rw [← hwb.out]
    go_ret
    exact ⟨rfl, hE.out⟩
  have hkk : (nm.toList == nm'.toList) = true := hrk.symm
  clear hrk
  go_enter Tryz.func25, Tryz.ntmps25
  go_wp2_with fail
  rw [← hwb.out]
  clear hwb
  refine (k1.out _ hE.out).mono ?_
  rintro e w1 ⟨rfl, hE1⟩
  replace z0 := mkHid (hE1.blk z0.out)
  replace z1 := mkHid (hE1.blk z1.out)
  replace hE := mkHid (hE.out.trans hE1)
  clear hE1
  cases r1
  · go_wp2_with fail
    go_ret
    exact ⟨rfl, hE.out⟩
  · have y10 : w1.cell? ⟨w.heap.size, 10, none⟩ = some (.int .i64 co) := row16_cells z0.out 10
    have x10 : w1.cell? ⟨w.heap.size + 1, 10, none⟩ = some (.int .i64 co') := row16_cells z1.out 10
    go_wp2_with fail
    go_ret
    exact ⟨rfl, hE.out⟩
end Go.Proofs.YtjelnmokcpoofaaGreatDoor
namespace Go.Proofs.YtjelnmokcpoofaaGreatDoor
set_option maxRecDepth 100000
open Go Go.RowKit Go.Proofs
theorem fr_load {P : Program} {S : World → Value → Prop} {o : Oper} {a : Act} {W : World} {X : Prop} {c : Prop} {ic : Decidable c} (hw : c) (ty : TypeId) (x : Operand) (ho : o.op = .load ty x)
    (g : Nat) (hx : a.eval x = .pointer (some ⟨g, 0, none⟩)) (t : TypeId) (cs : Array Value) (fr : Nat × Nat) (d : TypeDesc) (hg : W.heap[g]? = some (.cells cs t fr))
    (hu : P.underlying ty = some d) (hd : (match d with | .struct _ | .array _ _ => true | _ => false) = true) (hi : (P.info? ty).map (·.size) = some cs.size)
    (h : S W (.agg cs)) : if c then givesV P S ((execOp a.eval o).run P W) else X := by
  rw [if_pos hw]
  unfold execOp
  simp only [ho, hx, Instr.loadAt, Instr.sureAddr, Sem.run_bind, Sem.run_pure, Result.andThen_ok, run_loadVar_row W g t ty cs fr d hg hu hd hi]
  exact h
end Go.Proofs.YtjelnmokcpoofaaGreatDoor
namespace Go.Proofs.YtjelnmokcpoofaaGreatDoor
set_option maxRecDepth 100000
open Go Go.RowKit Go.Proofs
def okOperS (l : List Oper) (n i : Nat) (o : Oper) : Bool :=
  (o.after.toList.all fun e => !Region.binds .any e || decide (e.on < i)) &&
  (if i < n then
    (List.range l.length).all fun j => match l[j]? with
      | some oj => (match oj.dst with
        | some d => (!(o.looksAt l.toArray).contains d || (decide (j < i) && hasEdge o j) || decide (n ≤ j)) && (j == i || o.dst != some d)
        | none => true)
      | none => true
  else (List.range i).all fun j => ancB l 16 o j)
def okFreeS (n size : Nat) (l : List Oper) : Bool :=
  Region.noSelect l.toArray && decide (n ≤ l.length) && (l.all fun o => match o.dst with | some d => decide (d < size) | none => true) &&
    (List.range l.length).all fun i => match l[i]? with | some o => okOperS l n i o | none => true
section
variable {P : Program} {l0 : List Oper} {R : World → World → Prop} {w0 : World} {Q : Exit → Act → World → Prop}
structure OkSpecS (l : List Oper) (n size : Nat) : Prop where
  sel : ∀ (j : Nat) (o : Oper) cs b, l[j]? = some o → o.op ≠ .select cs b
  len : n ≤ l.length
  dst : ∀ (j : Nat) (o : Oper) (d : Tmp), l[j]? = some o → o.dst = some d → d < size
  edge : ∀ (i : Nat) (o : Oper), l[i]? = some o → ∀ e ∈ o.after, Region.binds .any e = true → e.on < i
  look : ∀ (i : Nat) (o : Oper) (j : Nat) (oj : Oper) (d : Tmp), i < n → l[i]? = some o → l[j]? = some oj → oj.dst = some d → d ∈ o.looksAt l.toArray → (j < i ∧ hasEdge o j = true) ∨ n ≤ j
  one : ∀ (i : Nat) (o : Oper) (j : Nat) (oj : Oper) (d : Tmp), i < n → l[i]? = some o → l[j]? = some oj → oj.dst = some d → i ≠ j → o.dst ≠ some d
  tail : ∀ (i : Nat) (o : Oper), n ≤ i → l[i]? = some o → ∀ j, j < i → ancB l 16 o j = true
theorem okFree_specS {n size : Nat} {l : List Oper} (h : okFreeS n size l = true) : OkSpecS l n size := by
  simp only [okFreeS, Bool.and_eq_true, decide_eq_true_eq, List.all_eq_true, List.mem_range] at h
  obtain ⟨⟨⟨h1, h2⟩, h3⟩, h4⟩ := h
  have at_ : ∀ i o, l[i]? = some o → okOperS l n i o = true := by
    intro i o ho
    have := h4 i (List.getElem?_eq_some_iff.1 ho).1
    rwa [ho] at this
  refine ⟨fun j o cs b hj => Region.noSelect_spec h1 j o cs b (by simpa using hj), h2, ?_, ?_, ?_, ?_, ?_⟩
  · intro j o d ho hd
    have := h3 o (List.mem_of_getElem? ho)
    simpa [hd] using this
  · intro i o ho e he hb
    have := at_ i o ho
    simp only [okOperS, Bool.and_eq_true, List.all_eq_true, Bool.or_eq_true, Bool.not_eq_true', decide_eq_true_eq] at this
    have := this.1 e (Array.mem_toList_iff.2 he)
    rcases this with h | h
    · rw [h] at hb; cases hb
    · exact h
  · intro i o j oj d hi ho hj hd hm
    have := at_ i o ho
    simp only [okOperS, Bool.and_eq_true, if_pos hi, List.all_eq_true, List.mem_range] at this
    have := this.2 j (List.getElem?_eq_some_iff.1 hj).1
    simp only [hj, hd, Bool.and_eq_true, Bool.or_eq_true, Bool.not_eq_true', decide_eq_true_eq] at this
    rcases this.1 with (h | h) | h
    · have := List.contains_iff_mem.2 hm
      rw [h] at this; cases this
    · exact .inl h
    · exact .inr h
  · intro i o j oj d hi ho hj hd hne
    have := at_ i o ho
    simp only [okOperS, Bool.and_eq_true, if_pos hi, List.all_eq_true, List.mem_range] at this
    have := this.2 j (List.getElem?_eq_some_iff.1 hj).1
    simp only [hj, hd, Bool.and_eq_true, Bool.or_eq_true, beq_iff_eq, bne_iff_ne, ne_eq] at this
    rcases this.2 with h | h
    · exact absurd h.symm hne
    · exact h
  · intro i o hi ho j hj
    have := at_ i o ho
    simp only [okOperS, Bool.and_eq_true, if_neg (Nat.not_lt.2 hi), List.all_eq_true, List.mem_range] at this
    exact this.2 j hj
/-- Where a region stands, whatever came first. -/
structure MidwayS (l : List Oper) (specs : List FSpec) (R : World → World → Prop) (w0 : World) (a0 : Act) (listed : Array Bool) (a : Act) (W : World) : Prop where
  size : listed.size = l.length
  rel : R w0 W
  defers : a.defers = a0.defers
  tsize : a.tmps.size = a0.tmps.size
  closed : ∀ (i : Nat) (o : Oper), listed.getD i false = true → l[i]? = some o → ∀ e ∈ o.after, Region.binds .any e = true → listed.getD e.on false = true
  other : ∀ (t : Tmp), (∀ (j : Nat) (o : Oper), l[j]? = some o → listed.getD j false = true → o.dst ≠ some t) → a.tmps[t]? = a0.tmps[t]?
  fact : ∀ (j : Nat) (o : Oper) (d : Tmp) (s : FSpec), listed.getD j false = true → l[j]? = some o → o.dst = some d → specs[j]? = some s → s.ok W (a.tmps.getD d undef)
  late : ∀ (j : Nat), specs.length ≤ j → listed.getD j false = false
  void : ∀ (j : Nat) (o : Oper) (s : FSpec), listed.getD j false = true → l[j]? = some o → o.dst = none → specs[j]? = some s → s.ok W undef
/-- What an operation without a slot tells does not hang on a value. -/
def VoidAll : List Oper → List FSpec → Prop
  | o :: l, s :: ss => (o.dst = none → ∀ W v, s.ok W v → s.ok W undef) ∧ VoidAll l ss
  | _, _ => True
theorem VoidAll.at_ : ∀ {l : List Oper} {ss : List FSpec} {j : Nat} {o : Oper} {s : FSpec}, VoidAll l ss → l[j]? = some o → ss[j]? = some s → o.dst = none → ∀ W v, s.ok W v → s.ok W undef
  | _ :: _, _ :: _, 0, _, _, h, h1, h2 => by
    simp at h1 h2
    subst h1 h2
    exact h.1
  | _ :: _, _ :: _, j + 1, _, _, h, h1, h2 => VoidAll.at_ (j := j) h.2 (by simpa using h1) (by simpa using h2)
  | [], _, _, _, _, _, h1, _ => by simp at h1
  | _ :: _, [], _, _, _, _, _, h2 => by simp at h2
theorem MidwayS.value {specs : List FSpec} {a0 a : Act} {listed : Array Bool} {W : World} (m : MidwayS l0 specs R w0 a0 listed a W) {j : Nat} {o : Oper} {d : Tmp} (hj : listed.getD j false = true) (ho : l0[j]? = some o) (hd : o.dst = some d) :
    a.tmps.getD d undef = valuesOf l0 specs a j := by
  have hlt : j < specs.length := by
    rcases Nat.lt_or_ge j specs.length with h | h
    · exact h
    · rw [m.late j h] at hj; cases hj
  have hs : specs[j]? = some specs[j] := List.getElem?_eq_getElem hlt
  have := m.fact j o d _ hj ho hd hs
  generalize specs[j] = s at this hs
  cases s with
  | val c => simp only [FSpec.ok] at this; simp [valuesOf, hs, this]
  | pred Φ => simp [valuesOf, hs, ho, hd]
theorem MidwayS.tmpS {specs : List FSpec} {a0 a : Act} {listed : Array Bool} {W : World} (m : MidwayS l0 specs R w0 a0 listed a W) (ok : OkSpecS l0 specs.length a0.tmps.size) (k t : Nat) (hk : k ≤ specs.length)
    (h : ∀ (j : Nat) (oj : Oper), l0[j]? = some oj → oj.dst = some t → (j < k ∧ listed.getD j false = true) ∨ specs.length ≤ j) : (frameAt a0 l0 (valuesOf l0 specs a) k).tmps[t]? = a.tmps[t]? := by
  by_cases hex : ∃ (j : Nat) (oj : Oper), l0[j]? = some oj ∧ oj.dst = some t
  · obtain ⟨j, oj, hj, hd⟩ := hex
    rcases h j oj hj hd with ⟨hjk, hlj⟩ | hge
    case inr =>
      have hfr : ∀ (i : Nat) (oi : Oper), i < specs.length → l0[i]? = some oi → oi.dst ≠ some t := fun i oi hi hoi => ok.one i oi j oj t hi hoi hj hd (by omega)
      rw [frameAt_other a0 l0 _ k t fun i oi hi hoi => hfr i oi (by omega) hoi]
      refine (m.other t fun i oi hoi hl => ?_).symm
      rcases Nat.lt_or_ge i specs.length with hi | hi
      · exact hfr i oi hi hoi
      · rw [m.late i hi] at hl; cases hl
    have ht := ok.dst j oj t hj hd
    rw [frameAt_own a0 l0 _ k t j oj hjk hj hd ht fun i o' hne ho' hd' => by
      rcases Nat.lt_or_ge i specs.length with hi | hi
      · exact ok.one i o' j oj t hi ho' hj hd hne hd'
      · exact ok.one j oj i o' t (by omega) hj ho' hd' (Ne.symm hne) hd]
    rw [← m.value hlj hj hd]
    have : t < a.tmps.size := by rw [m.tsize]; exact ht
    simp [this]
  · rw [frameAt_other a0 l0 _ k t fun j o _ ho hd => hex ⟨j, o, ho, hd⟩, m.other t fun j o ho _ hd => hex ⟨j, o, ho, hd⟩]
/-- One operation more, none of the tail. -/
theorem MidwayS.stepS {specs : List FSpec} {a0 a : Act} {listed : Array Bool} {W : World} (m : MidwayS l0 specs R w0 a0 listed a W) (ok : OkSpecS l0 specs.length a0.tmps.size) (hrf : ∀ a, R a a) (htr : ∀ a b c, R a b → R b c → R a c)
    (hst : ∀ s ∈ specs, ∀ W W' v, R W W' → s.ok W v → s.ok W' v) (hvo : VoidAll l0 specs) (h : freeSteps P l0 R w0 Q 0 specs l0 a0 []) {i : Nat} (hi : i < specs.length) (hr : i ∈ Region.ready .any l0.toArray listed) :
    wpOp P l0.toArray Q i (fun a' W' => MidwayS l0 specs R w0 a0 (listed.setIfInBounds i true) a' W') a W := by
  obtain ⟨hun, o, ho', hedge⟩ := mem_ready.1 hr
  have ho : l0[i]? = some o := by simpa using ho'
  have hil : i < l0.length := (List.getElem?_eq_some_iff.1 ho).1
  have hlt : i < listed.size := by rw [m.size]; exact hil
  have hat := steps_at h (valuesOf l0 specs a) (valuesOf_fits l0 specs a) i (by omega)
  rw [List.drop_eq_getElem_cons hi, List.drop_eq_getElem_cons hil] at hat
  have hs : specs[i]? = some specs[i] := List.getElem?_eq_getElem hi
  have hoi : l0[i] = o := by
    have := List.getElem?_eq_getElem hil
    rw [ho] at this
    exact (Option.some.inj this).symm
  rw [hoi] at hat
  have hfacts : ∀ p ∈ factsAt specs (valuesOf l0 specs a) i, leans l0 o p.1 = true → p.2.1.ok W p.2.2 := by
    intro p hp hl
    obtain ⟨h1, h2, h3⟩ := mem_factsAt hp
    unfold leans at hl
    split at hl
    · rename_i d hd
      obtain ⟨oj, hj, hdj⟩ := Option.bind_eq_some_iff.1 hd
      have hlook := (ok.look i o p.1 oj d hi ho hj hdj (List.contains_iff_mem.1 hl)).resolve_right (by omega)
      have hlj : listed.getD p.1 false = true := listed_anc (l0 := l0) m.closed 0 o p.1 hedge hlook.2
      have := m.fact p.1 oj d p.2.1 hlj hj hdj h2
      rw [h3, ← m.value hlj hj hdj]
      exact this
    · cases hl
  have hsame : ∀ t, t ∈ o.looksAt l0.toArray → (frameAt a0 l0 (valuesOf l0 specs a) i).tmps[t]? = a.tmps[t]? := by
    intro t ht
    refine m.tmpS ok i t (by omega) fun j oj hj hdj => ?_
    rcases ok.look i o j oj t hi ho hj hdj ht with hlook | hlook
    · exact .inl ⟨hlook.1, listed_anc (l0 := l0) m.closed 0 o j hedge hlook.2⟩
    · exact .inr hlook
  have hev : execOp (frameAt a0 l0 (valuesOf l0 specs a) i).eval o = execOp a.eval o := eval_of_tmps o (fun cs b => ok.sel i o cs b ho) hsame
  have hwa : Region.wanted o (yielded l0.toArray (frameAt a0 l0 (valuesOf l0 specs a) i).tmps) = Region.wanted o (yielded l0.toArray a.tmps) := wanted_of_tmps o hsame
  -- what is left to show of each value
  have next : ∀ W' v, R W W' → specs[i].ok W' v → MidwayS l0 specs R w0 a0 (listed.setIfInBounds i true) (a.put o.dst v) W' := by
    intro W' v hR hv
    refine ⟨by simpa using m.size, htr _ _ _ m.rel hR, ?_, ?_, ?_, ?_, ?_, ?_, ?_⟩
    · rw [← m.defers]; cases o.dst <;> rfl
    · rw [← m.tsize]; cases hd : o.dst <;> simp [Act.put]
    · intro j oj hj hoj e he hb
      by_cases hij : i = j
      · subst hij
        rw [ho] at hoj; cases hoj
        exact getD_set_true (hedge e he hb)
      · rw [getD_set_ne false hij] at hj
        exact getD_set_true (m.closed j oj hj hoj e he hb)
    · intro t ht
      have hne : o.dst ≠ some t := ht i o ho (by simp [hlt])
      rw [← m.other t fun j oj hoj hj => ht j oj hoj (by
        by_cases hij : i = j
        · subst hij; simp [hlt]
        · rw [getD_set_ne false hij]; exact hj)]
      cases hd : o.dst with
      | none => rfl
      | some d =>
        have : d ≠ t := fun e => hne (by rw [hd, e])
        simp [Act.put, Array.getElem?_setIfInBounds_ne this]
    · intro j oj d s hj hoj hdj hsj
      by_cases hij : i = j
      · subst hij
        rw [ho] at hoj; cases hoj
        rw [hs] at hsj; cases hsj
        have hsz : d < a.tmps.size := by rw [m.tsize]; exact ok.dst i _ d ho hdj
        simpa [Act.put, hdj, hsz] using hv
      · rw [getD_set_ne false hij] at hj
        have hf := m.fact j oj d s hj hoj hdj hsj
        have hf := hst s (List.mem_of_getElem? hsj) _ _ _ hR hf
        have hnd : o.dst ≠ some d := ok.one i o j oj d hi ho hoj hdj hij
        cases hd : o.dst with
        | none => simpa [Act.put] using hf
        | some e =>
          have : e ≠ d := fun e' => hnd (by rw [hd, e'])
          simpa [Act.put, Array.getElem?_setIfInBounds_ne this] using hf
    · intro j hj
      rw [getD_set_ne false (show i ≠ j by omega)]
      exact m.late j hj
    · intro j oj s hj hoj hdj hsj
      by_cases hij : i = j
      · subst hij
        rw [ho] at hoj; cases hoj
        rw [hs] at hsj; cases hsj
        exact hvo.at_ ho hs hdj _ _ hv
      · rw [getD_set_ne false hij] at hj
        exact hst s (List.mem_of_getElem? hsj) _ _ _ hR (m.void j oj s hj hoj hdj hsj)
  unfold wpOp
  simp only [List.getElem?_toArray, ho]
  generalize hsp : specs[i] = s at hat next
  cases s with
  | val c =>
    simp only [freeSteps] at hat
    have hone := hat.1 W m.rel (factsHold_of hfacts)
    rw [hwa, hev] at hone
    split
    · rename_i hw
      rw [if_pos hw] at hone
      refine .inl (upon_of_gives hone fun w' v hv => next _ _ hv.1 hv.2)
    · rename_i hw
      rw [if_neg hw] at hone
      exact next W undef (hrf W) hone
  | pred Φ =>
    simp only [freeSteps] at hat
    have hone := hat.1 W m.rel (factsHold_of hfacts)
    rw [hwa, hev] at hone
    split
    · rename_i hw
      rw [if_pos hw] at hone
      refine .inl (upon_of_gives hone fun w' v hv => next _ _ hv.1 hv.2)
    · rename_i hw
      rw [if_neg hw] at hone
      exact next W undef (hrf W) hone
/-- All of the front is done, and nothing else: the frame is the lexical walk's. -/
theorem MidwayS.doneS {specs : List FSpec} {a0 a : Act} {listed : Array Bool} {W : World} (m : MidwayS l0 specs R w0 a0 listed a W) (ok : OkSpecS l0 specs.length a0.tmps.size) (hall : ∀ j, j < specs.length → listed.getD j false = true) :
    a = frameAt a0 l0 (valuesOf l0 specs a) specs.length ∧ ∀ p ∈ factsAt specs (valuesOf l0 specs a) specs.length, p.2.1.ok W p.2.2 := by
  refine ⟨?_, fun p hp => ?_⟩
  · obtain ⟨tm, df⟩ := a
    have hdf := frameAt_defers a0 l0 (valuesOf l0 specs ⟨tm, df⟩) specs.length
    have htm : tm = (frameAt a0 l0 (valuesOf l0 specs ⟨tm, df⟩) specs.length).tmps := by
      refine Array.ext_getElem? fun t => ?_
      by_cases hex : ∃ (j : Nat) (oj : Oper), l0[j]? = some oj ∧ oj.dst = some t ∧ specs.length ≤ j
      · obtain ⟨j, oj, hj, hd, hge⟩ := hex
        by_cases hin : ∃ (i : Nat) (oi : Oper), l0[i]? = some oi ∧ oi.dst = some t ∧ i < specs.length
        · obtain ⟨i, oi, hi, hdi, hlt⟩ := hin
          exact absurd hdi (ok.one i oi j oj t hlt hi hj hd (by omega))
        · rw [frameAt_other a0 l0 _ _ t fun i o hi ho hd' => hin ⟨i, o, ho, hd', hi⟩]
          refine m.other t fun i o ho hl hd' => ?_
          rcases Nat.lt_or_ge i specs.length with h | h
          · exact hin ⟨i, o, ho, hd', h⟩
          · rw [m.late i h] at hl; cases hl
      · refine (m.tmpS ok specs.length t (Nat.le_refl _) fun j oj hj hd => ?_).symm
        have hlt : j < specs.length := by
          rcases Nat.lt_or_ge j specs.length with h | h
          · exact h
          · exact absurd ⟨j, oj, hj, hd, h⟩ hex
        exact .inl ⟨hlt, hall j hlt⟩
    have h1 : (frameAt a0 l0 (valuesOf l0 specs ⟨tm, df⟩) specs.length).defers = df := by rw [hdf, ← m.defers]
    generalize frameAt a0 l0 (valuesOf l0 specs ⟨tm, df⟩) specs.length = f at htm h1
    obtain ⟨ft, fd⟩ := f
    simp only at htm h1
    rw [htm, h1]
  · obtain ⟨h1, h2, h3⟩ := mem_factsAt hp
    have hil : p.1 < l0.length := by have := ok.len; omega
    have ho : l0[p.1]? = some l0[p.1] := List.getElem?_eq_getElem hil
    rw [h3]
    cases hd : l0[p.1].dst with
    | some d =>
      rw [← m.value (hall p.1 h1) ho hd]
      exact m.fact p.1 _ d _ (hall p.1 h1) ho hd h2
    | none =>
      have hv := m.void p.1 _ _ (hall p.1 h1) ho hd h2
      have he : valuesOf l0 specs a p.1 = undef ∨ ∃ c, p.2.1 = .val c := by
        cases hq : p.2.1 with
        | val c => exact .inr ⟨c, rfl⟩
        | pred Φ => exact .inl (by simp [valuesOf, h2, hq, ho, hd])
      rcases he with he | ⟨c, he⟩
      · rw [he]; exact hv
      · rw [he] at h2
        have hc : valuesOf l0 specs a p.1 = c := by simp [valuesOf, h2]
        rw [hc, he]; rfl
theorem free_anyS {specs : List FSpec} {a0 : Act} (ok : OkSpecS l0 specs.length a0.tmps.size) (hrf : ∀ a, R a a) (htr : ∀ a b c, R a b → R b c → R a c)
    (hst : ∀ s ∈ specs, ∀ W W' v, R W W' → s.ok W v → s.ok W' v) (hvo : VoidAll l0 specs) (h : freeSteps P l0 R w0 Q 0 specs l0 a0 []) :
    ∀ (fuel : Nat) (listed : Array Bool) (a : Act) (W : World), left l0 listed ≤ fuel → MidwayS l0 specs R w0 a0 listed a W → wpAny P .any l0.toArray Q fuel listed a W := by
  have fin : ∀ (listed : Array Bool) (a : Act) (W : World), MidwayS l0 specs R w0 a0 listed a W → (∀ j, j < specs.length → listed.getD j false = true) → wpList P l0.toArray Q (l0.drop specs.length) a W := by
    intro listed a W m hall
    obtain ⟨he, hf⟩ := m.doneS ok hall
    have hat := steps_at h (valuesOf l0 specs a) (valuesOf_fits l0 specs a) specs.length (Nat.le_refl _)
    rw [List.drop_length] at hat
    simp only [freeSteps] at hat
    have := hat W m.rel (factsHold_of fun p hp _ => hf p hp)
    rwa [← he] at this
  have hlst : ∀ (listed : Array Bool) (a : Act) (W : World), MidwayS l0 specs R w0 a0 listed a W → (∀ j, j < specs.length → listed.getD j false = true) → ∀ i, i < l0.length → (listed.getD i false = true ↔ i < specs.length) := by
    intro listed a W m hall i hi
    constructor
    · intro hl
      rcases Nat.lt_or_ge i specs.length with h | h
      · exact h
      · rw [m.late i h] at hl; cases hl
    · exact hall i
  intro fuel
  induction fuel with
  | zero =>
    intro listed a W hl m
    have hnone : ∀ i, i < l0.length → listed.getD i true = true := by
      intro i hi
      have h0 : ((List.range l0.length).filter fun i => !listed.getD i true) = [] := List.eq_nil_of_length_eq_zero (by unfold left at hl; omega)
      have := List.filter_eq_nil_iff.1 h0 i (List.mem_range.2 hi)
      simpa using this
    have hall : ∀ j, j < specs.length → listed.getD j false = true := by
      intro j hj
      have h1 := hnone j (by have := ok.len; omega)
      rcases listed_cases (listed := listed) (i := j) (by rw [m.size]; have := ok.len; omega) with h2 | h2
      · exact h2
      · rw [h2] at h1; cases h1
    have hn : specs.length = l0.length := by
      rcases Nat.lt_or_ge specs.length l0.length with h1 | h1
      · have h2 := hnone specs.length h1
        have h3 := m.late specs.length (Nat.le_refl _)
        rcases listed_cases (listed := listed) (i := specs.length) (by rw [m.size]; exact h1) with h4 | h4
        · rw [h4] at h3; cases h3
        · rw [h4] at h2; cases h2
      · have := ok.len; omega
    exact tail_forced ok.tail 0 specs.length listed a W 0 (Nat.le_refl _) hn (Nat.le_refl _) m.size m.closed (hlst _ _ _ m hall) ok.edge (fin _ _ _ m hall)
  | succ fuel ih =>
    intro listed a W hl m
    by_cases hall : ∀ j, j < specs.length → listed.getD j false = true
    · refine tail_forced ok.tail (l0.length - specs.length) specs.length listed a W (fuel + 1) (Nat.le_refl _) (by have := ok.len; omega) ?_ m.size m.closed (hlst _ _ _ m hall) ok.edge (fin _ _ _ m hall)
      have := left_ge (l := l0) (listed := listed) (n := specs.length) fun i h1 h2 => by
        have := m.late i h1
        have hlt : i < listed.size := by rw [m.size]; exact h2
        simpa [hlt] using this
      omega
    · refine ⟨fun h0 => ?_, fun i hi => ?_⟩
      · refine absurd (fun j => ?_) hall
        induction j using Nat.strongRecOn with
        | _ j ihj =>
          intro hj
          have hjl : j < l0.length := by have := ok.len; omega
          have hoj : l0[j]? = some l0[j] := List.getElem?_eq_getElem hjl
          rcases listed_cases (listed := listed) (i := j) (by rw [m.size]; exact hjl) with h1 | h1
          · exact h1
          · have hm : j ∈ Region.ready .any l0.toArray listed := mem_ready.2 ⟨h1, l0[j], by simp [hjl], fun e he hb => by
              have := ok.edge j _ hoj e he hb
              exact ihj e.on this (by omega)⟩
            rw [h0] at hm
            cases hm
      · obtain ⟨hun, o, ho', hedge⟩ := mem_ready.1 hi
        have hil : i < l0.length := by have := lt_of_unlisted hun; rw [m.size] at this; exact this
        have hn : i < specs.length := by
          rcases Nat.lt_or_ge i specs.length with h1 | h1
          · exact h1
          · exact absurd (fun j hj => listed_anc m.closed 16 o j hedge (ok.tail i o h1 (by simpa using ho') j (by omega))) hall
        exact wpOp_mono (fun a' W' m' => ih _ a' W' (by have := left_set hil hun; omega) m') (m.stepS ok hrf htr hst hvo h hn hi)
theorem region_freeS {id : Nat} {l : List Oper} {a : Act} {w : World} (R : World → World → Prop) (specs : List FSpec) (hm : P.follows .mixedOrders = true) (hok : okFreeS specs.length a.tmps.size l = true)
    (hrf : ∀ a, R a a) (htr : ∀ a b c, R a b → R b c → R a c) (hdr : ∀ a, R a a.drew) (hst : ∀ s ∈ specs, ∀ W W' v, R W W' → s.ok W v → s.ok W' v) (hvo : VoidAll l specs)
    (h : freeSteps P l R w Q 0 specs l a []) : (Code.region id l.toArray true).wp P Q a w := by
  refine wp_region_any hm ?_
  have hsz : l.toArray.size = l.length := by simp
  have hget : ∀ i : Nat, (Array.replicate l.toArray.size false).getD i false = false := by
    intro i
    rw [Array.getD_eq_getD_getElem?, Array.getElem?_replicate]
    split <;> rfl
  refine free_anyS (okFree_specS hok) hrf htr hst hvo h _ _ _ _ ?_ ⟨by simp, hdr w, rfl, rfl, ?_, ?_, ?_, ?_, ?_⟩
  · unfold left
    refine Nat.le_trans (List.length_filter_le _ _) ?_
    simp
  · intro i o hi
    rw [hget] at hi; cases hi
  · intro t _; rfl
  · intro j o d s hj
    rw [hget] at hj; cases hj
  · intro j _
    exact hget j
  · intro j o s hj
    rw [hget] at hj; cases hj
end
end Go.Proofs.YtjelnmokcpoofaaGreatDoor
namespace Go.Proofs.YtjelnmokcpoofaaGreatDoor
set_option maxRecDepth 100000
open Go Go.RowKit Go.Proofs
/-- Where a walk stands. -/
inductive Tok : Nat → Prop
  | mk (n : Nat) : Tok n
end Go.Proofs.YtjelnmokcpoofaaGreatDoor
namespace Go.Proofs.YtjelnmokcpoofaaGreatDoor
set_option maxRecDepth 100000
open Go Go.RowKit Go.Proofs
/-- May an element be, by its kind and its fractions' signs? -/
def mayS (kd sp sq : Int) : Bool :=
  if kd = 1 then decide (0 ≤ sp) && (sq == 0) else if kd = 2 then sq == 0 else if kd = 3 then decide (0 ≤ sp) && decide (0 < sq) else if kd = 4 then true else if kd = 5 then (sp == 0) && (sq == 0) else false
def mayO (kd : Int) : Option Rat → Option Rat → Bool
  | some p, some q => mayS kd p.num.sign q.num.sign
  | _, _ => false
theorem mayO_none (kd : Int) {op oq : Option Rat} (h : [op, oq].all Option.isSome = false) : mayO kd op oq = false := by
  cases op <;> cases oq <;> first | rfl | (simp at h)
set_option maxHeartbeats 1600000 in
theorem benchMay_c (kd : Int) (b1 : Bool) (a1 : Option Addr) (n1 c1 : Nat) (b2 : Bool) (a2 : Option Addr) (n2 c2 : Nat) (b3 : Bool) (a3 : Option Addr) (n3 c3 : Nat) (b4 : Bool) (a4 : Option Addr) (n4 c4 : Nat) (op oq : Option Rat) (w : World) (h1 : AnyF w (.agg #[.bool b1, .slice a1 n1 c1, .bool b2, .slice a2 n2 c2]) op) (h2 : AnyF w (.agg #[.bool b3, .slice a3 n3 c3, .bool b4, .slice a4 n4 c4]) oq) :
    Calls Tryz.prog 128 #[.agg #[.int .u8 kd, .bool b1, .slice a1 n1 c1, .bool b2, .slice a2 n2 c2, .bool b3, .slice a3 n3 c3, .bool b4, .slice a4 n4 c4]] w fun e w' => e = .returned (.bool (mayO kd op oq)) ∧ Ext w w' := by
  obtain ⟨wb, hwb⟩ : ∃ wb, wb = w.alloc (.cells #[.int .u8 kd, .bool b1, .slice a1 n1 c1, .bool b2, .slice a2 n2 c2, .bool b3, .slice a3 n3 c3, .bool b4, .slice a4 n4 c4] 54) := ⟨_, rfl⟩
  have hE : Ext w wb := by rw [hwb]; exact (Ext.refl w).al _
  have z0 : wb.heap[w.heap.size]? = some (.cells #[.int .u8 kd, .bool b1, .slice a1 n1 c1, .bool b2, .slice a2 n2 c2, .bool b3, .slice a3 n3 c3, .bool b4, .slice a4 n4 c4] 54 (0, 0)) := by rw [hwb]; exact heap_alloc_new _ _
  have hsz : wb.heap.size = w.heap.size + 1 := by rw [hwb]; simp
  obtain ⟨w2, hw2⟩ : ∃ w2, w2 = wb.alloc (.cells #[.bool b1, .slice a1 n1 c1, .bool b2, .slice a2 n2 c2, .bool b3, .slice a3 n3 c3, .bool b4, .slice a4 n4 c4] 52) := ⟨_, rfl⟩
  have hE2 : Ext wb w2 := by rw [hw2]; exact (Ext.refl wb).al _
  have zS : w2.heap[w.heap.size + 1]? = some (.cells #[.bool b1, .slice a1 n1 c1, .bool b2, .slice a2 n2 c2, .bool b3, .slice a3 n3 c3, .bool b4, .slice a4 n4 c4] 52 (0, 0)) := by rw [hw2, ← hsz]; exact heap_alloc_new _ _
  have H1 := mkHid (fun W (e : Ext w W) => h1.ext e)
  have H2 := mkHid (fun W (e : Ext w W) => h2.ext e)
  have HC := checks_f (w.heap.size + 1) 2 [op, oq] w2 (by simp) (lf_two zS (h1.ext (hE.trans hE2)) (h2.ext (hE.trans hE2)))
  have z02 := mkHid (hE2.blk z0)
  replace z0 := mkHid z0
  replace hE := mkHid (hE.trans hE2)
  replace hwb := mkHid hwb
  replace hw2 := mkHid hw2
  replace hsz := mkHid hsz
  clear hE2 zS
  cases hb : [op, oq].all Option.isSome with
  | false =>
    rw [hb] at HC
    rw [mayO_none kd hb]
    replace HC := mkHid HC
    clear hb h1 h2 H1 H2
    go_enter Tryz.func128, Tryz.ntmps128
    have tok : Tok 0 := .mk _
    go_wp2_with (first
      | ((have _t : Tok 0 := tok); clear _t; clear tok; (have tok : Tok 1 := .mk _); rw [← hwb.out]; refine wpList_load_sub (by rfl) 52 (.tmp 5) rfl (w.heap.size) 1 rfl 54 #[.int .u8 kd, .bool b1, .slice a1 n1 c1, .bool b2, .slice a2 n2 c2, .bool b3, .slice a3 n3 c3, .bool b4, .slice a4 n4 c4] #[.bool b1, .slice a1 n1 c1, .bool b2, .slice a2 n2 c2] (0, 0) _ z0.out rfl Tryz.underlying52 rfl (by kernel_rfl) ?_)
      | ((have _t : Tok 1 := tok); clear _t; clear tok; (have tok : Tok 2 := .mk _); refine wpList_load_sub (by rfl) 52 (.tmp 7) rfl (w.heap.size) 5 rfl 54 #[.int .u8 kd, .bool b1, .slice a1 n1 c1, .bool b2, .slice a2 n2 c2, .bool b3, .slice a3 n3 c3, .bool b4, .slice a4 n4 c4] #[.bool b3, .slice a3 n3 c3, .bool b4, .slice a4 n4 c4] (0, 0) _ z0.out rfl Tryz.underlying52 rfl (by kernel_rfl) ?_)
      | ((have _t : Tok 2 := tok); clear _t; clear tok; (have tok : Tok 3 := .mk _); go_at_call 183; rw [← hw2.out, hsz.out]; refine HC.out.mono ?_; rintro e w3 ⟨rfl, hx⟩; replace hE := mkHid (hE.out.trans hx); replace z0 := mkHid (hx.blk z02.out); clear hx z02))
    go_ret
    exact ⟨rfl, hE.out⟩
  | true =>
    obtain ⟨p, rfl⟩ : ∃ p, op = some p := by cases op with
      | none => simp at hb
      | some p => exact ⟨p, rfl⟩
    obtain ⟨q, rfl⟩ : ∃ q, oq = some q := by cases oq with
      | none => simp at hb
      | some q => exact ⟨q, rfl⟩
    rw [hb] at HC
    replace HC := mkHid HC
    obtain ⟨f1, k1⟩ := h1.frac
    obtain ⟨f2, k2⟩ := h2.frac
    have S1 := mkHid (fun W (e : Ext w W) => sign_f _ p W (Nat.le_trans k1 (by decide)) (f1.ext e))
    have S2 := mkHid (fun W (e : Ext w W) => sign_f _ q W (Nat.le_trans k2 (by decide)) (f2.ext e))
    rw [show mayO kd (some p) (some q) = mayS kd p.num.sign q.num.sign from rfl]
    generalize p.num.sign = sp at *
    generalize q.num.sign = sq at *
    clear hb h1 h2 H1 H2 f1 f2 k1 k2
    go_enter Tryz.func128, Tryz.ntmps128
    have tok : Tok 4 := .mk _
    go_wp2_with (first
      | ((have _t : Tok 4 := tok); clear _t; clear tok; (have tok : Tok 5 := .mk _); rw [← hwb.out]; refine wpList_load_sub (by rfl) 52 (.tmp 5) rfl (w.heap.size) 1 rfl 54 #[.int .u8 kd, .bool b1, .slice a1 n1 c1, .bool b2, .slice a2 n2 c2, .bool b3, .slice a3 n3 c3, .bool b4, .slice a4 n4 c4] #[.bool b1, .slice a1 n1 c1, .bool b2, .slice a2 n2 c2] (0, 0) _ z0.out rfl Tryz.underlying52 rfl (by kernel_rfl) ?_)
      | ((have _t : Tok 5 := tok); clear _t; clear tok; (have tok : Tok 6 := .mk _); refine wpList_load_sub (by rfl) 52 (.tmp 7) rfl (w.heap.size) 5 rfl 54 #[.int .u8 kd, .bool b1, .slice a1 n1 c1, .bool b2, .slice a2 n2 c2, .bool b3, .slice a3 n3 c3, .bool b4, .slice a4 n4 c4] #[.bool b3, .slice a3 n3 c3, .bool b4, .slice a4 n4 c4] (0, 0) _ z0.out rfl Tryz.underlying52 rfl (by kernel_rfl) ?_)
      | ((have _t : Tok 6 := tok); clear _t; clear tok; (have tok : Tok 7 := .mk _); go_at_call 183; rw [← hw2.out, hsz.out]; refine HC.out.mono ?_; rintro e w3 ⟨rfl, hx⟩; replace hE := mkHid (hE.out.trans hx); replace z0 := mkHid (hx.blk z02.out); clear hx z02))
    apply region_ext [.val (.pointer (some ⟨w.heap.size, 1, none⟩)), .val (.agg #[.bool b1, .slice a1 n1 c1, .bool b2, .slice a2 n2 c2]), .val (.int .i64 sp), .val (.pointer (some ⟨w.heap.size, 5, none⟩)), .val (.agg #[.bool b3, .slice a3 n3 c3, .bool b4, .slice a4 n4 c4]), .val (.int .i64 sq)] (by kernel_rfl) (stable_vals _ (stable_vals _ (stable_vals _ (stable_vals _ (stable_vals _ (stable_vals _ trivial))))))
    refine ⟨fun W hW _ => by go_simp; first | exact ⟨Ext.refl _, rfl⟩ | exact Ext.refl _, ?_⟩
    refine ⟨?l1, ?_⟩
    case l1 =>
      intro W hW hF
      have hr := hW.blk z0.out
      with_reducible refine fr_load_sub ?zhw 52 (.tmp 12) ?zho w.heap.size 1 ?zhx 54 _ #[.bool b1, .slice a1 n1 c1, .bool b2, .slice a2 n2 c2] (0, 0) _ hr ?zhs Tryz.underlying52 ?zhd ?zhi ?zh
      case zhw => kernel_rfl
      case zho => rfl
      case zhx => kernel_rfl
      case zhs => rfl
      case zhd => rfl
      case zhi => kernel_rfl
      case zh => exact ⟨Ext.refl _, rfl⟩
    refine ⟨fun W hW _ => ?s1, ?_⟩
    case s1 =>
      go_simp
      refine (S1.out W (hE.out.trans hW)).mono ?_
      rintro e w' ⟨rfl, hx⟩
      exact ⟨rfl, hx⟩
    refine ⟨fun W hW _ => by go_simp; first | exact ⟨Ext.refl _, rfl⟩ | exact Ext.refl _, ?_⟩
    refine ⟨?l2, ?_⟩
    case l2 =>
      intro W hW hF
      have hr := hW.blk z0.out
      with_reducible refine fr_load_sub ?zhw 52 (.tmp 15) ?zho w.heap.size 5 ?zhx 54 _ #[.bool b3, .slice a3 n3 c3, .bool b4, .slice a4 n4 c4] (0, 0) _ hr ?zhs Tryz.underlying52 ?zhd ?zhi ?zh
      case zhw => kernel_rfl
      case zho => rfl
      case zhx => kernel_rfl
      case zhs => rfl
      case zhd => rfl
      case zhi => kernel_rfl
      case zh => exact ⟨Ext.refl _, rfl⟩
    refine ⟨fun W hW _ => ?s2, fun W hW _ => ?fin⟩
    case s2 =>
      go_simp
      refine (S2.out W (hE.out.trans hW)).mono ?_
      rintro e w' ⟨rfl, hx⟩
      exact ⟨rfl, hx⟩
    case fin =>
      replace z0 := hW.blk z0.out
      replace hE := mkHid (hE.out.trans hW)
      have y0 := row16_cells z0 0
      replace y0 : W.cell? ⟨w.heap.size, 0, none⟩ = some (.int .u8 kd) := y0
      clear hW z0 S1 S2 HC
      go_simp
      by_cases k1 : kd = 1
      · subst k1
        by_cases hs : 0 ≤ sp
        · have e1 : decide (0 ≤ sp) = true := by simp [hs]
          go_wp2_with fail
          go_ret
          exact ⟨by simp [mayS, hs], hE.out⟩
        · have e1 : decide (0 ≤ sp) = false := by simp [hs]
          go_wp2_with fail
          go_ret
          exact ⟨by simp [mayS]; intro h; omega, hE.out⟩
      by_cases k2 : kd = 2
      · subst k2
        go_wp2_with fail
        go_ret
        exact ⟨by simp [mayS], hE.out⟩
      by_cases k3 : kd = 3
      · subst k3
        by_cases hs : 0 ≤ sp
        · have e1 : decide (0 ≤ sp) = true := by simp [hs]
          go_wp2_with fail
          go_ret
          exact ⟨by simp [mayS, hs], hE.out⟩
        · have e1 : decide (0 ≤ sp) = false := by simp [hs]
          go_wp2_with fail
          go_ret
          exact ⟨by simp [mayS]; intro h; omega, hE.out⟩
      by_cases k4 : kd = 4
      · subst k4
        go_wp2_with fail
        go_ret
        exact ⟨by simp [mayS], hE.out⟩
      by_cases k5 : kd = 5
      · subst k5
        by_cases hs : sp = 0
        · subst hs
          go_wp2_with fail
          go_ret
          exact ⟨by simp [mayS], hE.out⟩
        · have e1 : (sp == 0) = false := by simpa using hs
          go_wp2_with fail
          go_ret
          exact ⟨by simp [mayS, hs], hE.out⟩
      have d1 : (kd == 1) = false := by simpa using k1
      have d2 : (kd == 2) = false := by simpa using k2
      have d3 : (kd == 3) = false := by simpa using k3
      have d4 : (kd == 4) = false := by simpa using k4
      have d5 : (kd == 5) = false := by simpa using k5
      go_wp2_with fail
      go_ret
      exact ⟨by simp [mayS, k1, k2, k3, k4, k5], hE.out⟩
set_option maxHeartbeats 1600000 in
theorem benchCheck_1 (kd : Int) (b1 : Bool) (a1 : Option Addr) (n1 c1 : Nat) (b2 : Bool) (a2 : Option Addr) (n2 c2 : Nat) (b3 : Bool) (a3 : Option Addr) (n3 c3 : Nat) (b4 : Bool) (a4 : Option Addr) (n4 c4 : Nat) (op oq : Option Rat) (g : Nat) (w : World) (h1 : AnyF w (.agg #[.bool b1, .slice a1 n1 c1, .bool b2, .slice a2 n2 c2]) op) (h2 : AnyF w (.agg #[.bool b3, .slice a3 n3 c3, .bool b4, .slice a4 n4 c4]) oq) (hg : w.heap[g]? = some (.cells #[.int .u8 kd, .bool b1, .slice a1 n1 c1, .bool b2, .slice a2 n2 c2, .bool b3, .slice a3 n3 c3, .bool b4, .slice a4 n4 c4] 54 (0, 0))) :
    Calls Tryz.prog 78 #[.slice (some ⟨g, 0, none⟩) 1 1] w fun e w' => e = .returned (.int .i64 (if mayO kd op oq then 0 else 1)) ∧ Ext w w' := by
  have M := mkHid (fun W (e : Ext w W) => benchMay_c kd b1 a1 n1 c1 b2 a2 n2 c2 b3 a3 n3 c3 b4 a4 n4 c4 op oq W (h1.ext e) (h2.ext e))
  have z0 := mkHid hg
  clear h1 h2 hg
  obtain ⟨w2, hw2⟩ : ∃ w2, w2 = w.alloc (.cells #[.int .u8 kd, .bool b1, .slice a1 n1 c1, .bool b2, .slice a2 n2 c2, .bool b3, .slice a3 n3 c3, .bool b4, .slice a4 n4 c4] 54) := ⟨_, rfl⟩
  have hE : Ext w w2 := by rw [hw2]; exact (Ext.refl w).al _
  have zV : w2.heap[w.heap.size]? = some (.cells #[.int .u8 kd, .bool b1, .slice a1 n1 c1, .bool b2, .slice a2 n2 c2, .bool b3, .slice a3 n3 c3, .bool b4, .slice a4 n4 c4] 54 (0, 0)) := by rw [hw2]; exact heap_alloc_new _ _
  replace zV := mkHid zV
  replace hE := mkHid hE
  replace hw2 := mkHid hw2
  cases hm : mayO kd op oq <;> rw [hm] at M
  all_goals
    clear hm
    go_enter Tryz.func78, Tryz.ntmps78
    go_wp2_with fail
    refine wp_loop_rounds 2 ?_
    rw [rounds_succ]
    have tok : Tok 8 := .mk _
    go_wp2_with (first
      | ((have _t : Tok 8 := tok); clear _t; clear tok; (have tok : Tok 9 := .mk _); refine wpList_load_row (by rfl) 54 (.tmp 12) rfl (g) rfl 54 #[.int .u8 kd, .bool b1, .slice a1 n1 c1, .bool b2, .slice a2 n2 c2, .bool b3, .slice a3 n3 c3, .bool b4, .slice a4 n4 c4] (0, 0) _ z0.out Tryz.underlying54 rfl (by kernel_rfl) ?_)
      | ((have _t : Tok 9 := tok); clear _t; clear tok; (have tok : Tok 10 := .mk _); rw [← hw2.out]; refine wpList_load_row (by rfl) 54 (.tmp 4) rfl (w.heap.size) rfl 54 #[.int .u8 kd, .bool b1, .slice a1 n1 c1, .bool b2, .slice a2 n2 c2, .bool b3, .slice a3 n3 c3, .bool b4, .slice a4 n4 c4] (0, 0) _ zV.out Tryz.underlying54 rfl (by kernel_rfl) ?_)
      | ((have _t : Tok 10 := tok); clear _t; clear tok; (have tok : Tok 11 := .mk _); go_at_call 128; refine (M.out _ hE.out).mono ?_; rintro e w3 ⟨rfl, hx⟩; replace hE := mkHid (hE.out.trans hx); clear hx))
  · go_ret
    exact ⟨rfl, hE.out⟩
  · rw [rounds_succ]
    go_wp2_with fail
    go_ret
    exact ⟨rfl, hE.out⟩
def mayP (kd co : Int) (op oq : Option Rat) : Bool := decide (0 ≤ co) && (decide (co ≤ 1073741824) && mayO kd op oq)
set_option maxHeartbeats 1600000 in
theorem may_c (nm : ByteArray) (kd co : Int) (b1 : Bool) (a1 : Option Addr) (n1 c1 : Nat) (b2 : Bool) (a2 : Option Addr) (n2 c2 : Nat) (b3 : Bool) (a3 : Option Addr) (n3 c3 : Nat) (b4 : Bool) (a4 : Option Addr) (n4 c4 : Nat) (op oq : Option Rat) (w : World) (h1 : AnyF w (.agg #[.bool b1, .slice a1 n1 c1, .bool b2, .slice a2 n2 c2]) op) (h2 : AnyF w (.agg #[.bool b3, .slice a3 n3 c3, .bool b4, .slice a4 n4 c4]) oq) :
    Calls Tryz.prog 40 #[.agg #[.string nm, .int .u8 kd, .bool b1, .slice a1 n1 c1, .bool b2, .slice a2 n2 c2, .bool b3, .slice a3 n3 c3, .bool b4, .slice a4 n4 c4, .int .i64 co]] w fun e w' => e = .returned (.bool (mayP kd co op oq)) ∧ Ext w w' := by
  obtain ⟨wb, hwb⟩ : ∃ wb, wb = w.alloc (.cells #[.string nm, .int .u8 kd, .bool b1, .slice a1 n1 c1, .bool b2, .slice a2 n2 c2, .bool b3, .slice a3 n3 c3, .bool b4, .slice a4 n4 c4, .int .i64 co] 56) := ⟨_, rfl⟩
  have hE : Ext w wb := by rw [hwb]; exact (Ext.refl w).al _
  have z0 : wb.heap[w.heap.size]? = some (.cells #[.string nm, .int .u8 kd, .bool b1, .slice a1 n1 c1, .bool b2, .slice a2 n2 c2, .bool b3, .slice a3 n3 c3, .bool b4, .slice a4 n4 c4, .int .i64 co] 56 (0, 0)) := by rw [hwb]; exact heap_alloc_new _ _
  have hsz : wb.heap.size = w.heap.size + 1 := by rw [hwb]; simp
  obtain ⟨w2, hw2⟩ : ∃ w2, w2 = wb.alloc (.cells #[.int .u8 kd, .bool b1, .slice a1 n1 c1, .bool b2, .slice a2 n2 c2, .bool b3, .slice a3 n3 c3, .bool b4, .slice a4 n4 c4] 54) := ⟨_, rfl⟩
  have hE2 : Ext wb w2 := by rw [hw2]; exact (Ext.refl wb).al _
  have zS : w2.heap[w.heap.size + 1]? = some (.cells #[.int .u8 kd, .bool b1, .slice a1 n1 c1, .bool b2, .slice a2 n2 c2, .bool b3, .slice a3 n3 c3, .bool b4, .slice a4 n4 c4] 54 (0, 0)) := by rw [hw2, ← hsz]; exact heap_alloc_new _ _
  have M := benchCheck_1 kd b1 a1 n1 c1 b2 a2 n2 c2 b3 a3 n3 c3 b4 a4 n4 c4 op oq (w.heap.size + 1) w2 (h1.ext (hE.trans hE2)) (h2.ext (hE.trans hE2)) zS
  have y10 := row16_cells z0 10
  replace y10 : wb.cell? ⟨w.heap.size, 10, none⟩ = some (.int .i64 co) := y10
  have hE' := mkHid (hE.trans hE2)
  replace z0 := mkHid z0
  replace M := mkHid M
  replace hwb := mkHid hwb
  replace hw2 := mkHid hw2
  replace hsz := mkHid hsz
  replace hE := mkHid hE
  clear h1 h2 hE2 zS
  by_cases cc1 : 0 ≤ co
  · by_cases cc2 : co ≤ 1073741824
    · have ev : mayP kd co op oq = mayO kd op oq := by simp [mayP, cc1, cc2]
      rw [ev]
      clear ev
      cases hm : mayO kd op oq <;> rw [hm] at M
      all_goals
        clear hm
        go_enter Tryz.func40, Tryz.ntmps40
        have tok : Tok 12 := .mk _
        go_wp2_with ((have _t : Tok 12 := tok); clear _t; clear tok; (have tok : Tok 13 := .mk _); go_at_call 78; rw [← hwb.out, ← hw2.out]; refine M.out.mono ?_; rintro e w3 ⟨rfl, hx⟩; replace hE' := mkHid (hE'.out.trans hx); clear hx)
        go_ret
        exact ⟨rfl, hE'.out⟩
    · have ev : mayP kd co op oq = false := by simp [mayP, cc2]
      rw [ev]
      clear ev M
      go_enter Tryz.func40, Tryz.ntmps40
      clear y10
      go_wp2_with fail
      go_ret
      exact ⟨rfl, (Ext.refl _).al _⟩
  · have ev : mayP kd co op oq = false := by simp [mayP, cc1]
    rw [ev]
    clear ev M
    go_enter Tryz.func40, Tryz.ntmps40
    clear y10
    go_wp2_with fail
    go_ret
    exact ⟨rfl, (Ext.refl _).al _⟩
end Go.Proofs.YtjelnmokcpoofaaGreatDoor
