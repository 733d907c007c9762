/-
  The reference's Sign, zero, May (ref10, ref25): printed by tools/gen_rmay.py. Names: what is one; catalog.named. The catalogue in memory: its struct, its map, its parts; where they lie. The catalogue's New, gone, Put, Drop, Get. exact.Read: the number of a text, or none. Decimal digits by parts of nine: no program. The digits of a number out of its parts: no program. Plain law of the reference's Digits: nine digits of each part, the low ones first, then zeros. Parts that are handed back: a list of one's own, each part in rows of its own. Names in their order. DERIVED: THE SHELF's CONTRACTS AT THIS DUMP, IN PLAIN WORDS (tools/lay-plain.mjs out of 'YtjelnmokcpoofaaGreatDoorIterT.lean', which tools/lay-shelf.mjs wrote): THE SAME DECLARATIONS UNDER THE SAME NAMES: 'import', 'namespace', 'open', 'def', 'theorem' AND NOTHING ELSE: no command of the shelf's: FOR A HAND-IN. Each laying: the table of numbers ('.._ren') and one theorem, a field a fact of the dump's own or the kernel's comparison; each contract: ONE APPLICATION. The catalogue's All: its parts by their names, rising, each in rows of its own. The lens whose power is nearest, as a plain matter: the program's way (the first least of those that are lenses) and the reference's (one look along the list) are one.
-/
import Derived.Test.YtjelnmokcpoofaaGreatDoorTAH
import Derived.Test.YtjelnmokcpoofaaGreatDoorTAG
import Derived.Test.YtjelnmokcpoofaaGreatDoorTAC
import Derived.Shelf.Strings.SlTrimAscii
import Derived.Test.YtjelnmokcpoofaaGreatDoorTAF
import Derived.Test.YtjelnmokcpoofaaGreatDoorTAA
import Derived.Test.YtjelnmokcpoofaaGreatDoorTAD
import Derived.Test.YtjelnmokcpoofaaGreatDoorTAB
import Derived.Test.YtjelnmokcpoofaaGreatDoorTAE
import Derived.Lib.SmallJoins
import Derived.Lib.ItoaNum
import Derived.Maps.AppendAt
import Derived.Sort.KeysCollected
import Derived.Shelf.SlIter.Nil
import Derived.Shelf.SortM.Plain
import Derived.Shelf.SortM.SortNone
import Derived.Ground.GgzProg
import Derived.Ground.SlgmProg
import Derived.Test.YtjelnmokcpoofaaGreatDoorProg
import Derived.Shelf.SlGeneric
import Derived.Lib.Bytealg
namespace Go.Proofs.YtjelnmokcpoofaaGreatDoor
set_option maxRecDepth 100000
open Go Go.RowKit Go.Proofs
theorem rsign_f (v : Value) (x : Rat) (w : World) (hX : nf x ≤ 268435456) (h : FracR w v x) :
  Calls Tryz.prog 141 #[v] w fun e w' => e = .returned (.int .i64 x.num.sign) ∧ Ext w w' := by
 have H := h
 obtain ⟨x1, x2, x3, x4, y1, y2, y3, y4, rfl⟩ := h.shape
 have hn : nl x.num ≤ 1073741824 := nT (Nat.le_max_left _ _) (nT hX (by decide))
 have hs := mK (fun w h => rsign_c (.agg #[.bool x1, .slice x2 x3 x4]) x.num w h hn)
 replace H := mK H
 clear h
 go_enter Tryz.func141, Tryz.ntmps141
 go_wp2_with fail
 refine (hs.out _ (H.out.ext ((xR w).al _)).num).mono ?_
 rintro e w' ⟨rfl, hE⟩
 have FE := mK (((xR w).al _).trans hE)
 clear hE
 go_wp2_with fail
 go_ret
 exact ⟨rfl, FE.out⟩
theorem rzero_f (v : Value) (x : Rat) (w : World) (hX : nf x ≤ 268435456) (h : FracR w v x) :
  Calls Tryz.prog 142 #[v] w fun e w' => e = .returned (.bool (x.num.sign == 0)) ∧ Ext w w' := by
 have H := h
 obtain ⟨x1, x2, x3, x4, y1, y2, y3, y4, rfl⟩ := h.shape
 have hs := mK (fun W (e : Ext w W) => rsign_f _ x W hX (H.ext e))
 clear h H hX
 generalize x.num.sign = sx at *
 go_enter Tryz.func142, Tryz.ntmps142
 go_wp2_with (go_at_call 141; refine (hs.out _ ((xR w).al _)).mono ?_; rintro e w2 ⟨rfl, hx⟩; have hE := mK (((xR w).al _).trans hx); clear hx)
 go_ret
 exact ⟨rfl, hE.out⟩
set_option maxHeartbeats 1600000 in
theorem rMayE_c (kd : Int) (b1 : Bool) (a1 : Option Addr) (n1 c1 : Nat) (b2 : Bool) (a2 : Option Addr) (n2 c2 : Nat) (b3 : Bool) (a3 : Option Addr) (n3 c3 : Nat) (b4 : Bool) (a4 : Option Addr) (n4 c4 : Nat) (op oq : Option Rat) (w : World) (h1 : AnyF w (.agg #[.bool b1, .slice a1 n1 c1, .bool b2, .slice a2 n2 c2]) op) (h2 : AnyF w (.agg #[.bool b3, .slice a3 n3 c3, .bool b4, .slice a4 n4 c4]) oq) :
  Calls Tryz.prog 84 #[.agg #[.int .u8 kd, .bool b1, .slice a1 n1 c1, .bool b2, .slice a2 n2 c2, .bool b3, .slice a3 n3 c3, .bool b4, .slice a4 n4 c4]] w fun e w' => e = .returned (.bool (mayO kd op oq)) ∧ Ext w w' := by
 obtain ⟨wb, hwb⟩ : ∃ wb, wb = w.alloc (.cells #[.int .u8 kd, .bool b1, .slice a1 n1 c1, .bool b2, .slice a2 n2 c2, .bool b3, .slice a3 n3 c3, .bool b4, .slice a4 n4 c4] 54) := ⟨_, rfl⟩
 have hE : Ext w wb := by rw [hwb]; exact (xR w).al _
 have z0 : wb.heap[w.heap.size]? = some (.cells #[.int .u8 kd, .bool b1, .slice a1 n1 c1, .bool b2, .slice a2 n2 c2, .bool b3, .slice a3 n3 c3, .bool b4, .slice a4 n4 c4] 54 (0, 0)) := by rw [hwb]; exact heap_alloc_new _ _
 have hsz : wb.heap.size = w.heap.size + 1 := by rw [hwb]; simp
 obtain ⟨w2, hw2⟩ : ∃ w2, w2 = wb.alloc (.cells #[.bool b1, .slice a1 n1 c1, .bool b2, .slice a2 n2 c2, .bool b3, .slice a3 n3 c3, .bool b4, .slice a4 n4 c4] 52) := ⟨_, rfl⟩
 have hE2 : Ext wb w2 := by rw [hw2]; exact (xR wb).al _
 have zS : w2.heap[w.heap.size + 1]? = some (.cells #[.bool b1, .slice a1 n1 c1, .bool b2, .slice a2 n2 c2, .bool b3, .slice a3 n3 c3, .bool b4, .slice a4 n4 c4] 52 (0, 0)) := by rw [hw2, ← hsz]; exact heap_alloc_new _ _
 have HC := rchecks_f (w.heap.size + 1) 2 [op, oq] w2 (by simp) (lf_two zS (h1.ext (hE.trans hE2)) (h2.ext (hE.trans hE2)))
 have z02 := mK (hE2.blk z0)
 replace z0 := mK z0
 replace hE := mK (hE.trans hE2)
 replace hwb := mK hwb
 replace hw2 := mK hw2
 replace hsz := mK hsz
 clear hE2 zS
 cases hb : [op, oq].all Option.isSome with
 | false =>
  rw [hb] at HC
  rw [mayO_none kd hb]
  replace HC := mK HC
  clear hb h1 h2
  go_enter Tryz.func84, Tryz.ntmps84
  have tok : Tok 0 := .mk _
  go_wp2_with (first
   | (replace tok : Tok 1 := nxT 0 tok; rw [← hwb.out]; refine wpList_load_sub (by rfl) 52 (.tmp 3) rfl (w.heap.size) 1 rfl 54 #[.int .u8 kd, .bool b1, .slice a1 n1 c1, .bool b2, .slice a2 n2 c2, .bool b3, .slice a3 n3 c3, .bool b4, .slice a4 n4 c4] #[.bool b1, .slice a1 n1 c1, .bool b2, .slice a2 n2 c2] (0, 0) _ z0.out rfl Tryz.underlying52 rfl (by kernel_rfl) ?_)
   | (replace tok : Tok 2 := nxT 1 tok; refine wpList_load_sub (by rfl) 52 (.tmp 5) rfl (w.heap.size) 5 rfl 54 #[.int .u8 kd, .bool b1, .slice a1 n1 c1, .bool b2, .slice a2 n2 c2, .bool b3, .slice a3 n3 c3, .bool b4, .slice a4 n4 c4] #[.bool b3, .slice a3 n3 c3, .bool b4, .slice a4 n4 c4] (0, 0) _ z0.out rfl Tryz.underlying52 rfl (by kernel_rfl) ?_)
   | (replace tok : Tok 3 := nxT 2 tok; go_at_call 140; rw [← hw2.out, hsz.out]; refine HC.out.mono ?_; rintro e w3 ⟨rfl, hx⟩; replace hE := mK (hE.out.trans hx); replace z0 := mK (hx.blk z02.out); have y0 := row16_cells z0.out 0; replace y0 : w3.cell? ⟨w.heap.size, 0, none⟩ = some (.int .u8 _) := y0; clear hx z02))
  go_ret
  exact ⟨rfl, hE.out⟩
 | true =>
  obtain ⟨p, rfl⟩ : ∃ p, op = some p := by cases op with
   | none => simp at hb
   | some p => exact ⟨p, rfl⟩
  obtain ⟨q, rfl⟩ : ∃ q, oq = some q := by cases oq with
   | none => simp at hb
   | some q => exact ⟨q, rfl⟩
  rw [hb] at HC
  replace HC := mK HC
  obtain ⟨f1, k1⟩ := h1.frac
  obtain ⟨f2, k2⟩ := h2.frac
  have S1 := mK (fun W (e : Ext w W) => rsign_f _ p W (nT k1 (by decide)) (f1.ext e))
  have S2 := mK (fun W (e : Ext w W) => rsign_f _ q W (nT k2 (by decide)) (f2.ext e))
  have Z1 := mK (fun W (e : Ext w W) => rzero_f _ p W (nT k1 (by decide)) (f1.ext e))
  have Z2 := mK (fun W (e : Ext w W) => rzero_f _ q W (nT k2 (by decide)) (f2.ext e))
  rw [show mayO kd (some p) (some q) = mayS kd p.num.sign q.num.sign from rfl]
  generalize p.num.sign = sp at *
  generalize q.num.sign = sq at *
  clear hb h1 h2 f1 f2 k1 k2
  by_cases k1 : kd = 1
  ·have d1 : (kd == 1) = true := (by simp [k1])
   replace k1 := mK k1
   by_cases hs : 0 ≤ sp
   ·have e1 : decide (0 ≤ sp) = true := by simp [hs]
    go_enter Tryz.func84, Tryz.ntmps84
    have tok : Tok 4 := .mk _
    go_wp2_with (first
     | (replace tok : Tok 5 := nxT 4 tok; rw [← hwb.out]; refine wpList_load_sub (by rfl) 52 (.tmp 3) rfl (w.heap.size) 1 rfl 54 #[.int .u8 kd, .bool b1, .slice a1 n1 c1, .bool b2, .slice a2 n2 c2, .bool b3, .slice a3 n3 c3, .bool b4, .slice a4 n4 c4] #[.bool b1, .slice a1 n1 c1, .bool b2, .slice a2 n2 c2] (0, 0) _ z0.out rfl Tryz.underlying52 rfl (by kernel_rfl) ?_)
     | (replace tok : Tok 6 := nxT 5 tok; refine wpList_load_sub (by rfl) 52 (.tmp 5) rfl (w.heap.size) 5 rfl 54 #[.int .u8 kd, .bool b1, .slice a1 n1 c1, .bool b2, .slice a2 n2 c2, .bool b3, .slice a3 n3 c3, .bool b4, .slice a4 n4 c4] #[.bool b3, .slice a3 n3 c3, .bool b4, .slice a4 n4 c4] (0, 0) _ z0.out rfl Tryz.underlying52 rfl (by kernel_rfl) ?_)
     | (replace tok : Tok 7 := nxT 6 tok; go_at_call 140; rw [← hw2.out, hsz.out]; refine HC.out.mono ?_; rintro e w3 ⟨rfl, hx⟩; replace hE := mK (hE.out.trans hx); replace z0 := mK (hx.blk z02.out); have y0 := row16_cells z0.out 0; replace y0 : w3.cell? ⟨w.heap.size, 0, none⟩ = some (.int .u8 _) := y0; clear hx z02)
     | (replace tok : Tok 8 := nxT 7 tok; refine wpList_load_sub (by rfl) 52 (.tmp 14) rfl (w.heap.size) 1 rfl 54 #[.int .u8 kd, .bool b1, .slice a1 n1 c1, .bool b2, .slice a2 n2 c2, .bool b3, .slice a3 n3 c3, .bool b4, .slice a4 n4 c4] #[.bool b1, .slice a1 n1 c1, .bool b2, .slice a2 n2 c2] (0, 0) _ z0.out rfl Tryz.underlying52 rfl (by kernel_rfl) ?_)
     | (replace tok : Tok 9 := nxT 8 tok; go_at_call 141; refine (S1.out _ hE.out).mono ?_; rintro e v1 ⟨rfl, hx⟩; replace hE := mK (hE.out.trans hx); replace z0 := mK (hx.blk z0.out); clear hx)
     | (replace tok : Tok 10 := nxT 9 tok; refine wpList_load_subG (by rfl) 52 (.tmp 19) rfl (w.heap.size) 5 rfl 54 #[.int .u8 kd, .bool b1, .slice a1 n1 c1, .bool b2, .slice a2 n2 c2, .bool b3, .slice a3 n3 c3, .bool b4, .slice a4 n4 c4] #[.bool b3, .slice a3 n3 c3, .bool b4, .slice a4 n4 c4] (0, 0) _ z0.out rfl Tryz.underlying52 rfl (by kernel_rfl) ?_)
     | (replace tok : Tok 11 := nxT 10 tok; go_at_call 142; refine (Z2.out _ hE.out).mono ?_; rintro e v2 ⟨rfl, hx⟩; replace hE := mK (hE.out.trans hx); replace z0 := mK (hx.blk z0.out); clear hx))
    go_ret
    exact ⟨by simp [mayS, k1.out, hs], hE.out⟩
   ·have e1 : decide (0 ≤ sp) = false := by simp [hs]
    go_enter Tryz.func84, Tryz.ntmps84
    have tok : Tok 12 := .mk _
    go_wp2_with (first
     | (replace tok : Tok 13 := nxT 12 tok; rw [← hwb.out]; refine wpList_load_sub (by rfl) 52 (.tmp 3) rfl (w.heap.size) 1 rfl 54 #[.int .u8 kd, .bool b1, .slice a1 n1 c1, .bool b2, .slice a2 n2 c2, .bool b3, .slice a3 n3 c3, .bool b4, .slice a4 n4 c4] #[.bool b1, .slice a1 n1 c1, .bool b2, .slice a2 n2 c2] (0, 0) _ z0.out rfl Tryz.underlying52 rfl (by kernel_rfl) ?_)
     | (replace tok : Tok 14 := nxT 13 tok; refine wpList_load_sub (by rfl) 52 (.tmp 5) rfl (w.heap.size) 5 rfl 54 #[.int .u8 kd, .bool b1, .slice a1 n1 c1, .bool b2, .slice a2 n2 c2, .bool b3, .slice a3 n3 c3, .bool b4, .slice a4 n4 c4] #[.bool b3, .slice a3 n3 c3, .bool b4, .slice a4 n4 c4] (0, 0) _ z0.out rfl Tryz.underlying52 rfl (by kernel_rfl) ?_)
     | (replace tok : Tok 15 := nxT 14 tok; go_at_call 140; rw [← hw2.out, hsz.out]; refine HC.out.mono ?_; rintro e w3 ⟨rfl, hx⟩; replace hE := mK (hE.out.trans hx); replace z0 := mK (hx.blk z02.out); have y0 := row16_cells z0.out 0; replace y0 : w3.cell? ⟨w.heap.size, 0, none⟩ = some (.int .u8 _) := y0; clear hx z02)
     | (replace tok : Tok 16 := nxT 15 tok; refine wpList_load_sub (by rfl) 52 (.tmp 14) rfl (w.heap.size) 1 rfl 54 #[.int .u8 kd, .bool b1, .slice a1 n1 c1, .bool b2, .slice a2 n2 c2, .bool b3, .slice a3 n3 c3, .bool b4, .slice a4 n4 c4] #[.bool b1, .slice a1 n1 c1, .bool b2, .slice a2 n2 c2] (0, 0) _ z0.out rfl Tryz.underlying52 rfl (by kernel_rfl) ?_)
     | (replace tok : Tok 17 := nxT 16 tok; go_at_call 141; refine (S1.out _ hE.out).mono ?_; rintro e v3 ⟨rfl, hx⟩; replace hE := mK (hE.out.trans hx); replace z0 := mK (hx.blk z0.out); clear hx))
    go_ret
    exact ⟨by simp [mayS, k1.out]; intro h; omega, hE.out⟩
  by_cases k2 : kd = 2
  ·have d1 : (kd == 1) = false := (by simp [k2]); have d2 : (kd == 2) = true := (by simp [k2])
   replace k2 := mK k2
   go_enter Tryz.func84, Tryz.ntmps84
   have tok : Tok 18 := .mk _
   go_wp2_with (first
    | (replace tok : Tok 19 := nxT 18 tok; rw [← hwb.out]; refine wpList_load_sub (by rfl) 52 (.tmp 3) rfl (w.heap.size) 1 rfl 54 #[.int .u8 kd, .bool b1, .slice a1 n1 c1, .bool b2, .slice a2 n2 c2, .bool b3, .slice a3 n3 c3, .bool b4, .slice a4 n4 c4] #[.bool b1, .slice a1 n1 c1, .bool b2, .slice a2 n2 c2] (0, 0) _ z0.out rfl Tryz.underlying52 rfl (by kernel_rfl) ?_)
    | (replace tok : Tok 20 := nxT 19 tok; refine wpList_load_sub (by rfl) 52 (.tmp 5) rfl (w.heap.size) 5 rfl 54 #[.int .u8 kd, .bool b1, .slice a1 n1 c1, .bool b2, .slice a2 n2 c2, .bool b3, .slice a3 n3 c3, .bool b4, .slice a4 n4 c4] #[.bool b3, .slice a3 n3 c3, .bool b4, .slice a4 n4 c4] (0, 0) _ z0.out rfl Tryz.underlying52 rfl (by kernel_rfl) ?_)
    | (replace tok : Tok 21 := nxT 20 tok; go_at_call 140; rw [← hw2.out, hsz.out]; refine HC.out.mono ?_; rintro e w3 ⟨rfl, hx⟩; replace hE := mK (hE.out.trans hx); replace z0 := mK (hx.blk z02.out); have y0 := row16_cells z0.out 0; replace y0 : w3.cell? ⟨w.heap.size, 0, none⟩ = some (.int .u8 _) := y0; clear hx z02)
    | (replace tok : Tok 22 := nxT 21 tok; refine wpList_load_sub (by rfl) 52 (.tmp 25) rfl (w.heap.size) 5 rfl 54 #[.int .u8 kd, .bool b1, .slice a1 n1 c1, .bool b2, .slice a2 n2 c2, .bool b3, .slice a3 n3 c3, .bool b4, .slice a4 n4 c4] #[.bool b3, .slice a3 n3 c3, .bool b4, .slice a4 n4 c4] (0, 0) _ z0.out rfl Tryz.underlying52 rfl (by kernel_rfl) ?_)
    | (replace tok : Tok 23 := nxT 22 tok; go_at_call 142; refine (Z2.out _ hE.out).mono ?_; rintro e v4 ⟨rfl, hx⟩; replace hE := mK (hE.out.trans hx); replace z0 := mK (hx.blk z0.out); clear hx))
   go_ret
   exact ⟨by simp [mayS, k2.out], hE.out⟩
  by_cases k3 : kd = 3
  ·have d1 : (kd == 1) = false := (by simp [k3]); have d2 : (kd == 2) = false := (by simp [k3]); have d3 : (kd == 3) = true := (by simp [k3])
   replace k3 := mK k3
   by_cases hs : 0 ≤ sp
   ·have e1 : decide (0 ≤ sp) = true := by simp [hs]
    go_enter Tryz.func84, Tryz.ntmps84
    have tok : Tok 24 := .mk _
    go_wp2_with (first
     | (replace tok : Tok 25 := nxT 24 tok; rw [← hwb.out]; refine wpList_load_sub (by rfl) 52 (.tmp 3) rfl (w.heap.size) 1 rfl 54 #[.int .u8 kd, .bool b1, .slice a1 n1 c1, .bool b2, .slice a2 n2 c2, .bool b3, .slice a3 n3 c3, .bool b4, .slice a4 n4 c4] #[.bool b1, .slice a1 n1 c1, .bool b2, .slice a2 n2 c2] (0, 0) _ z0.out rfl Tryz.underlying52 rfl (by kernel_rfl) ?_)
     | (replace tok : Tok 26 := nxT 25 tok; refine wpList_load_sub (by rfl) 52 (.tmp 5) rfl (w.heap.size) 5 rfl 54 #[.int .u8 kd, .bool b1, .slice a1 n1 c1, .bool b2, .slice a2 n2 c2, .bool b3, .slice a3 n3 c3, .bool b4, .slice a4 n4 c4] #[.bool b3, .slice a3 n3 c3, .bool b4, .slice a4 n4 c4] (0, 0) _ z0.out rfl Tryz.underlying52 rfl (by kernel_rfl) ?_)
     | (replace tok : Tok 27 := nxT 26 tok; go_at_call 140; rw [← hw2.out, hsz.out]; refine HC.out.mono ?_; rintro e w3 ⟨rfl, hx⟩; replace hE := mK (hE.out.trans hx); replace z0 := mK (hx.blk z02.out); have y0 := row16_cells z0.out 0; replace y0 : w3.cell? ⟨w.heap.size, 0, none⟩ = some (.int .u8 _) := y0; clear hx z02)
     | (replace tok : Tok 28 := nxT 27 tok; refine wpList_load_sub (by rfl) 52 (.tmp 30) rfl (w.heap.size) 1 rfl 54 #[.int .u8 kd, .bool b1, .slice a1 n1 c1, .bool b2, .slice a2 n2 c2, .bool b3, .slice a3 n3 c3, .bool b4, .slice a4 n4 c4] #[.bool b1, .slice a1 n1 c1, .bool b2, .slice a2 n2 c2] (0, 0) _ z0.out rfl Tryz.underlying52 rfl (by kernel_rfl) ?_)
     | (replace tok : Tok 29 := nxT 28 tok; go_at_call 141; refine (S1.out _ hE.out).mono ?_; rintro e v5 ⟨rfl, hx⟩; replace hE := mK (hE.out.trans hx); replace z0 := mK (hx.blk z0.out); clear hx)
     | (replace tok : Tok 30 := nxT 29 tok; refine wpList_load_subG (by rfl) 52 (.tmp 35) rfl (w.heap.size) 5 rfl 54 #[.int .u8 kd, .bool b1, .slice a1 n1 c1, .bool b2, .slice a2 n2 c2, .bool b3, .slice a3 n3 c3, .bool b4, .slice a4 n4 c4] #[.bool b3, .slice a3 n3 c3, .bool b4, .slice a4 n4 c4] (0, 0) _ z0.out rfl Tryz.underlying52 rfl (by kernel_rfl) ?_)
     | (replace tok : Tok 31 := nxT 30 tok; go_at_call 141; refine (S2.out _ hE.out).mono ?_; rintro e v6 ⟨rfl, hx⟩; replace hE := mK (hE.out.trans hx); replace z0 := mK (hx.blk z0.out); clear hx))
    go_ret
    exact ⟨by simp [mayS, k3.out, hs], hE.out⟩
   ·have e1 : decide (0 ≤ sp) = false := by simp [hs]
    go_enter Tryz.func84, Tryz.ntmps84
    have tok : Tok 32 := .mk _
    go_wp2_with (first
     | (replace tok : Tok 33 := nxT 32 tok; rw [← hwb.out]; refine wpList_load_sub (by rfl) 52 (.tmp 3) rfl (w.heap.size) 1 rfl 54 #[.int .u8 kd, .bool b1, .slice a1 n1 c1, .bool b2, .slice a2 n2 c2, .bool b3, .slice a3 n3 c3, .bool b4, .slice a4 n4 c4] #[.bool b1, .slice a1 n1 c1, .bool b2, .slice a2 n2 c2] (0, 0) _ z0.out rfl Tryz.underlying52 rfl (by kernel_rfl) ?_)
     | (replace tok : Tok 34 := nxT 33 tok; refine wpList_load_sub (by rfl) 52 (.tmp 5) rfl (w.heap.size) 5 rfl 54 #[.int .u8 kd, .bool b1, .slice a1 n1 c1, .bool b2, .slice a2 n2 c2, .bool b3, .slice a3 n3 c3, .bool b4, .slice a4 n4 c4] #[.bool b3, .slice a3 n3 c3, .bool b4, .slice a4 n4 c4] (0, 0) _ z0.out rfl Tryz.underlying52 rfl (by kernel_rfl) ?_)
     | (replace tok : Tok 35 := nxT 34 tok; go_at_call 140; rw [← hw2.out, hsz.out]; refine HC.out.mono ?_; rintro e w3 ⟨rfl, hx⟩; replace hE := mK (hE.out.trans hx); replace z0 := mK (hx.blk z02.out); have y0 := row16_cells z0.out 0; replace y0 : w3.cell? ⟨w.heap.size, 0, none⟩ = some (.int .u8 _) := y0; clear hx z02)
     | (replace tok : Tok 36 := nxT 35 tok; refine wpList_load_sub (by rfl) 52 (.tmp 30) rfl (w.heap.size) 1 rfl 54 #[.int .u8 kd, .bool b1, .slice a1 n1 c1, .bool b2, .slice a2 n2 c2, .bool b3, .slice a3 n3 c3, .bool b4, .slice a4 n4 c4] #[.bool b1, .slice a1 n1 c1, .bool b2, .slice a2 n2 c2] (0, 0) _ z0.out rfl Tryz.underlying52 rfl (by kernel_rfl) ?_)
     | (replace tok : Tok 37 := nxT 36 tok; go_at_call 141; refine (S1.out _ hE.out).mono ?_; rintro e v7 ⟨rfl, hx⟩; replace hE := mK (hE.out.trans hx); replace z0 := mK (hx.blk z0.out); clear hx))
    go_ret
    exact ⟨by simp [mayS, k3.out]; intro h; omega, hE.out⟩
  by_cases k4 : kd = 4
  ·have d1 : (kd == 1) = false := (by simp [k4]); have d2 : (kd == 2) = false := (by simp [k4]); have d3 : (kd == 3) = false := (by simp [k4]); have d4 : (kd == 4) = true := (by simp [k4])
   replace k4 := mK k4
   go_enter Tryz.func84, Tryz.ntmps84
   have tok : Tok 38 := .mk _
   go_wp2_with (first
    | (replace tok : Tok 39 := nxT 38 tok; rw [← hwb.out]; refine wpList_load_sub (by rfl) 52 (.tmp 3) rfl (w.heap.size) 1 rfl 54 #[.int .u8 kd, .bool b1, .slice a1 n1 c1, .bool b2, .slice a2 n2 c2, .bool b3, .slice a3 n3 c3, .bool b4, .slice a4 n4 c4] #[.bool b1, .slice a1 n1 c1, .bool b2, .slice a2 n2 c2] (0, 0) _ z0.out rfl Tryz.underlying52 rfl (by kernel_rfl) ?_)
    | (replace tok : Tok 40 := nxT 39 tok; refine wpList_load_sub (by rfl) 52 (.tmp 5) rfl (w.heap.size) 5 rfl 54 #[.int .u8 kd, .bool b1, .slice a1 n1 c1, .bool b2, .slice a2 n2 c2, .bool b3, .slice a3 n3 c3, .bool b4, .slice a4 n4 c4] #[.bool b3, .slice a3 n3 c3, .bool b4, .slice a4 n4 c4] (0, 0) _ z0.out rfl Tryz.underlying52 rfl (by kernel_rfl) ?_)
    | (replace tok : Tok 41 := nxT 40 tok; go_at_call 140; rw [← hw2.out, hsz.out]; refine HC.out.mono ?_; rintro e w3 ⟨rfl, hx⟩; replace hE := mK (hE.out.trans hx); replace z0 := mK (hx.blk z02.out); have y0 := row16_cells z0.out 0; replace y0 : w3.cell? ⟨w.heap.size, 0, none⟩ = some (.int .u8 _) := y0; clear hx z02))
   go_ret
   exact ⟨by simp [mayS, k4.out], hE.out⟩
  by_cases k5 : kd = 5
  ·have d1 : (kd == 1) = false := (by simp [k5]); have d2 : (kd == 2) = false := (by simp [k5]); have d3 : (kd == 3) = false := (by simp [k5]); have d4 : (kd == 4) = false := (by simp [k5]); have d5 : (kd == 5) = true := (by simp [k5])
   replace k5 := mK k5
   by_cases hs : sp = 0
   ·subst hs
    go_enter Tryz.func84, Tryz.ntmps84
    have tok : Tok 42 := .mk _
    go_wp2_with (first
     | (replace tok : Tok 43 := nxT 42 tok; rw [← hwb.out]; refine wpList_load_sub (by rfl) 52 (.tmp 3) rfl (w.heap.size) 1 rfl 54 #[.int .u8 kd, .bool b1, .slice a1 n1 c1, .bool b2, .slice a2 n2 c2, .bool b3, .slice a3 n3 c3, .bool b4, .slice a4 n4 c4] #[.bool b1, .slice a1 n1 c1, .bool b2, .slice a2 n2 c2] (0, 0) _ z0.out rfl Tryz.underlying52 rfl (by kernel_rfl) ?_)
     | (replace tok : Tok 44 := nxT 43 tok; refine wpList_load_sub (by rfl) 52 (.tmp 5) rfl (w.heap.size) 5 rfl 54 #[.int .u8 kd, .bool b1, .slice a1 n1 c1, .bool b2, .slice a2 n2 c2, .bool b3, .slice a3 n3 c3, .bool b4, .slice a4 n4 c4] #[.bool b3, .slice a3 n3 c3, .bool b4, .slice a4 n4 c4] (0, 0) _ z0.out rfl Tryz.underlying52 rfl (by kernel_rfl) ?_)
     | (replace tok : Tok 45 := nxT 44 tok; go_at_call 140; rw [← hw2.out, hsz.out]; refine HC.out.mono ?_; rintro e w3 ⟨rfl, hx⟩; replace hE := mK (hE.out.trans hx); replace z0 := mK (hx.blk z02.out); have y0 := row16_cells z0.out 0; replace y0 : w3.cell? ⟨w.heap.size, 0, none⟩ = some (.int .u8 _) := y0; clear hx z02)
     | (replace tok : Tok 46 := nxT 45 tok; refine wpList_load_sub (by rfl) 52 (.tmp 44) rfl (w.heap.size) 1 rfl 54 #[.int .u8 kd, .bool b1, .slice a1 n1 c1, .bool b2, .slice a2 n2 c2, .bool b3, .slice a3 n3 c3, .bool b4, .slice a4 n4 c4] #[.bool b1, .slice a1 n1 c1, .bool b2, .slice a2 n2 c2] (0, 0) _ z0.out rfl Tryz.underlying52 rfl (by kernel_rfl) ?_)
     | (replace tok : Tok 47 := nxT 46 tok; go_at_call 142; refine (Z1.out _ hE.out).mono ?_; rintro e v8 ⟨rfl, hx⟩; replace hE := mK (hE.out.trans hx); replace z0 := mK (hx.blk z0.out); clear hx)
     | (replace tok : Tok 48 := nxT 47 tok; refine wpList_load_subG (by rfl) 52 (.tmp 48) rfl (w.heap.size) 5 rfl 54 #[.int .u8 kd, .bool b1, .slice a1 n1 c1, .bool b2, .slice a2 n2 c2, .bool b3, .slice a3 n3 c3, .bool b4, .slice a4 n4 c4] #[.bool b3, .slice a3 n3 c3, .bool b4, .slice a4 n4 c4] (0, 0) _ z0.out rfl Tryz.underlying52 rfl (by kernel_rfl) ?_)
     | (replace tok : Tok 49 := nxT 48 tok; go_at_call 142; refine (Z2.out _ hE.out).mono ?_; rintro e v9 ⟨rfl, hx⟩; replace hE := mK (hE.out.trans hx); replace z0 := mK (hx.blk z0.out); clear hx))
    go_ret
    exact ⟨by simp [mayS, k5.out], hE.out⟩
   ·have e1 : (sp == 0) = false := by simpa using hs
    go_enter Tryz.func84, Tryz.ntmps84
    have tok : Tok 50 := .mk _
    go_wp2_with (first
     | (replace tok : Tok 51 := nxT 50 tok; rw [← hwb.out]; refine wpList_load_sub (by rfl) 52 (.tmp 3) rfl (w.heap.size) 1 rfl 54 #[.int .u8 kd, .bool b1, .slice a1 n1 c1, .bool b2, .slice a2 n2 c2, .bool b3, .slice a3 n3 c3, .bool b4, .slice a4 n4 c4] #[.bool b1, .slice a1 n1 c1, .bool b2, .slice a2 n2 c2] (0, 0) _ z0.out rfl Tryz.underlying52 rfl (by kernel_rfl) ?_)
     | (replace tok : Tok 52 := nxT 51 tok; refine wpList_load_sub (by rfl) 52 (.tmp 5) rfl (w.heap.size) 5 rfl 54 #[.int .u8 kd, .bool b1, .slice a1 n1 c1, .bool b2, .slice a2 n2 c2, .bool b3, .slice a3 n3 c3, .bool b4, .slice a4 n4 c4] #[.bool b3, .slice a3 n3 c3, .bool b4, .slice a4 n4 c4] (0, 0) _ z0.out rfl Tryz.underlying52 rfl (by kernel_rfl) ?_)
     | (replace tok : Tok 53 := nxT 52 tok; go_at_call 140; rw [← hw2.out, hsz.out]; refine HC.out.mono ?_; rintro e w3 ⟨rfl, hx⟩; replace hE := mK (hE.out.trans hx); replace z0 := mK (hx.blk z02.out); have y0 := row16_cells z0.out 0; replace y0 : w3.cell? ⟨w.heap.size, 0, none⟩ = some (.int .u8 _) := y0; clear hx z02)
     | (replace tok : Tok 54 := nxT 53 tok; refine wpList_load_sub (by rfl) 52 (.tmp 44) rfl (w.heap.size) 1 rfl 54 #[.int .u8 kd, .bool b1, .slice a1 n1 c1, .bool b2, .slice a2 n2 c2, .bool b3, .slice a3 n3 c3, .bool b4, .slice a4 n4 c4] #[.bool b1, .slice a1 n1 c1, .bool b2, .slice a2 n2 c2] (0, 0) _ z0.out rfl Tryz.underlying52 rfl (by kernel_rfl) ?_)
     | (replace tok : Tok 55 := nxT 54 tok; go_at_call 142; refine (Z1.out _ hE.out).mono ?_; rintro e v10 ⟨rfl, hx⟩; replace hE := mK (hE.out.trans hx); replace z0 := mK (hx.blk z0.out); clear hx))
    go_ret
    exact ⟨by simp [mayS, k5.out, hs], hE.out⟩
  have d1 : (kd == 1) = false := by simpa using k1
  have d2 : (kd == 2) = false := by simpa using k2
  have d3 : (kd == 3) = false := by simpa using k3
  have d4 : (kd == 4) = false := by simpa using k4
  have d5 : (kd == 5) = false := by simpa using k5
  go_enter Tryz.func84, Tryz.ntmps84
  have tok : Tok 56 := .mk _
  go_wp2_with (first
   | (replace tok : Tok 57 := nxT 56 tok; rw [← hwb.out]; refine wpList_load_sub (by rfl) 52 (.tmp 3) rfl (w.heap.size) 1 rfl 54 #[.int .u8 kd, .bool b1, .slice a1 n1 c1, .bool b2, .slice a2 n2 c2, .bool b3, .slice a3 n3 c3, .bool b4, .slice a4 n4 c4] #[.bool b1, .slice a1 n1 c1, .bool b2, .slice a2 n2 c2] (0, 0) _ z0.out rfl Tryz.underlying52 rfl (by kernel_rfl) ?_)
   | (replace tok : Tok 58 := nxT 57 tok; refine wpList_load_sub (by rfl) 52 (.tmp 5) rfl (w.heap.size) 5 rfl 54 #[.int .u8 kd, .bool b1, .slice a1 n1 c1, .bool b2, .slice a2 n2 c2, .bool b3, .slice a3 n3 c3, .bool b4, .slice a4 n4 c4] #[.bool b3, .slice a3 n3 c3, .bool b4, .slice a4 n4 c4] (0, 0) _ z0.out rfl Tryz.underlying52 rfl (by kernel_rfl) ?_)
   | (replace tok : Tok 59 := nxT 58 tok; go_at_call 140; rw [← hw2.out, hsz.out]; refine HC.out.mono ?_; rintro e w3 ⟨rfl, hx⟩; replace hE := mK (hE.out.trans hx); replace z0 := mK (hx.blk z02.out); have y0 := row16_cells z0.out 0; replace y0 : w3.cell? ⟨w.heap.size, 0, none⟩ = some (.int .u8 _) := y0; clear hx z02))
  go_ret
  exact ⟨by simp [mayS, k1, k2, k3, k4, k5], hE.out⟩
set_option maxHeartbeats 1600000 in
theorem rMay_c (nm : ByteArray) (kd co : Int) (b1 : Bool) (a1 : Option Addr) (n1 c1 : Nat) (b2 : Bool) (a2 : Option Addr) (n2 c2 : Nat) (b3 : Bool) (a3 : Option Addr) (n3 c3 : Nat) (b4 : Bool) (a4 : Option Addr) (n4 c4 : Nat) (op oq : Option Rat) (w : World) (h1 : AnyF w (.agg #[.bool b1, .slice a1 n1 c1, .bool b2, .slice a2 n2 c2]) op) (h2 : AnyF w (.agg #[.bool b3, .slice a3 n3 c3, .bool b4, .slice a4 n4 c4]) oq) :
  Calls Tryz.prog 48 #[.agg #[.string nm, .int .u8 kd, .bool b1, .slice a1 n1 c1, .bool b2, .slice a2 n2 c2, .bool b3, .slice a3 n3 c3, .bool b4, .slice a4 n4 c4, .int .i64 co]] w fun e w' => e = .returned (.bool (mayP kd co op oq)) ∧ Ext w w' := by
 have M := fun W (e : Ext w W) => rMayE_c kd b1 a1 n1 c1 b2 a2 n2 c2 b3 a3 n3 c3 b4 a4 n4 c4 op oq W (h1.ext e) (h2.ext e)
 have y10 : ∀ W, Ext (w.alloc (.cells #[.string nm, .int .u8 kd, .bool b1, .slice a1 n1 c1, .bool b2, .slice a2 n2 c2, .bool b3, .slice a3 n3 c3, .bool b4, .slice a4 n4 c4, .int .i64 co] 56)) W → W.cell? ⟨w.heap.size, 10, none⟩ = some (.int .i64 co) := fun W e => row16_cells (e.blk (heap_alloc_new _ _)) 10
 clear h1 h2
 cases hm : mayO kd op oq <;> rw [hm] at M
 ·have ev : mayP kd co op oq = false := by simp [mayP, hm]
  rw [ev]
  clear ev hm y10
  replace M := mK M
  go_enter Tryz.func48, Tryz.ntmps48
  go_wp2_with (go_at_call 84; refine (M.out _ ((xR w).al _)).mono ?_; rintro e w2 ⟨rfl, hx⟩; have hE := mK (((xR w).al _).trans hx); clear hx)
  go_ret
  exact ⟨rfl, hE.out⟩
 ·have ev : mayP kd co op oq = (decide (0 ≤ co) && decide (co ≤ 1073741824)) := by simp [mayP, hm]
  rw [ev]
  clear ev hm
  replace M := mK M
  by_cases cc1 : 0 ≤ co
  ·by_cases cc2 : co ≤ 1073741824
   all_goals
    go_enter Tryz.func48, Tryz.ntmps48
    go_wp2_with (go_at_call 84; refine (M.out _ ((xR w).al _)).mono ?_; rintro e w2 ⟨rfl, hx⟩; have y10 := y10 _ hx; have hE := mK (((xR w).al _).trans hx); clear hx)
    go_ret
    exact ⟨by simp [cc1, cc2] <;> omega, hE.out⟩
  ·go_enter Tryz.func48, Tryz.ntmps48
   go_wp2_with (go_at_call 84; refine (M.out _ ((xR w).al _)).mono ?_; rintro e w2 ⟨rfl, hx⟩; have y10 := y10 _ hx; have hE := mK (((xR w).al _).trans hx); clear hx)
   go_ret
   exact ⟨by simp; intro h; omega, hE.out⟩
end Go.Proofs.YtjelnmokcpoofaaGreatDoor
namespace Go.Proofs.YtjelnmokcpoofaaGreatDoor
set_option maxRecDepth 100000
open Go Go.RowKit Go.Proofs Go.Shelf Go.Lib
def cutset : List UInt8 := [97, 98, 99, 100, 101, 102, 103, 104, 105, 106, 107, 108, 109, 110, 111, 112, 113, 114, 115, 116, 117, 118, 119, 120, 121, 122, 48, 49, 50, 51, 52, 53, 54, 55, 56, 57, 45]
def nameC (c : UInt8) : Bool := (decide (97 ≤ c.toNat) && decide (c.toNat ≤ 122)) || (decide (48 ≤ c.toNat) && decide (c.toNat ≤ 57)) || c.toNat == 45
theorem cutset_nameC (c : UInt8) : cutset.contains c = nameC c := by
 have h : ∀ n : Fin 256, cutset.contains (UInt8.ofNat n.val) = nameC (UInt8.ofNat n.val) := by decide +kernel
 have := h ⟨c.toNat, c.toNat_lt⟩
 simpa using this
def nameB (l : List UInt8) : Bool := decide (0 < l.length) && (decide (l.length ≤ 32) && (decide (97 ≤ (l.headD 0).toNat) && (decide ((l.headD 0).toNat ≤ 122) && l.all nameC)))
theorem dw_all {p : UInt8 → Bool} : ∀ l : List UInt8, (∀ x ∈ l.dropWhile p, p x = true) → l.dropWhile p = []
 | [], _ => rfl
 | a :: l, h => by
  by_cases ha : p a = true
  ·rw [List.dropWhile_cons_of_pos ha] at h ⊢
   exact dw_all l h
  ·rw [List.dropWhile_cons_of_neg ha] at h
   exact absurd (h a (by simp)) ha
theorem dw_nil {p : UInt8 → Bool} : ∀ l : List UInt8, l.dropWhile p = [] ↔ ∀ x ∈ l, p x = true
 | [] => by simp
 | a :: l => by
  by_cases ha : p a = true
  ·rw [List.dropWhile_cons_of_pos ha, dw_nil l]
   simp [ha]
  ·rw [List.dropWhile_cons_of_neg ha]
   simp [ha]
theorem trimS_nil (l : List UInt8) : (Lib.trimS l cutset = []) ↔ l.all nameC = true := by
 have e : (fun c => cutset.contains c) = nameC := funext cutset_nameC
 unfold Lib.trimS Lib.trimRightS Lib.trimLeftS
 rw [e, dw_nil]
 constructor
 ·intro h
  have h2 := dw_all (p := nameC) l.reverse fun x hx => h x (List.mem_reverse.2 hx)
  rw [dw_nil] at h2
  exact List.all_eq_true.2 fun x hx => h2 x (List.mem_reverse.2 hx)
 ·intro h x hx
  have h2 : l.reverse.dropWhile nameC = [] := (dw_nil _).2 fun y hy => List.all_eq_true.1 h y (List.mem_reverse.1 hy)
  rw [h2] at hx
  cases hx
theorem strim_c (s : ByteArray) (w : World) (hs : s.size ≤ 9223372036854775807) :
  Calls Tryz.prog 75 #[.string s, .string ⟨#[97, 98, 99, 100, 101, 102, 103, 104, 105, 106, 107, 108, 109, 110, 111, 112, 113, 114, 115, 116, 117, 118, 119, 120, 121, 122, 48, 49, 50, 51, 52, 53, 54, 55, 56, 57, 45]⟩] w fun e w' => e = .returned (.string ⟨(Lib.trimS s.data.toList cutset).toArray⟩) ∧ Below w.heap.size w w' := by
 have hcon := Any.strings_Trim_laid Tryz.lays160 (by kernel_rfl) s ⟨#[97, 98, 99, 100, 101, 102, 103, 104, 105, 106, 107, 108, 109, 110, 111, 112, 113, 114, 115, 116, 117, 118, 119, 120, 121, 122, 48, 49, 50, 51, 52, 53, 54, 55, 56, 57, 45]⟩ w hs (by decide) (ascii_of_all (by decide))
 exact hcon
set_option maxHeartbeats 400000 in
theorem named_c (s : ByteArray) (w : World) (hs : s.size ≤ 9223372036854775807) :
  Calls Tryz.prog 38 #[.string s] w fun e w' => e = .returned (.bool (nameB s.data.toList)) ∧ Ext w w' := by
 have T := strim_c s w hs
 have e1 := trimS_nil s.data.toList
 have hsz : s.data.toList.length = s.size := Array.length_toList
 generalize Lib.trimS s.data.toList cutset = r at T e1
 unfold nameB
 rw [hsz]
 by_cases c1 : 0 < s.size
 ·have hd : s.data.toList.headD 0 = s[0] := by
   obtain ⟨⟨l⟩⟩ := s
   cases l with
   | nil => simp [ByteArray.size] at c1
   | cons a l => rfl
  rw [hd]
  clear hd hsz
  by_cases c2 : s.size ≤ 32
  ·by_cases c3 : 97 ≤ s[0].toNat
   ·by_cases c4 : s[0].toNat ≤ 122
    ·cases hall : s.data.toList.all nameC
     ·have hr : r ≠ [] := fun h => by rw [e1.1 h] at hall; cases hall
      clear e1 hall
      replace T := mK T
      go_enter Tryz.func38, Tryz.ntmps38
      go_wp2_with (go_at_call 75; refine T.out.mono ?_; rintro e w2 ⟨rfl, hx⟩; replace hx := mK hx)
      go_ret
      exact ⟨by simp [c1, c2, c3, c4, hr], hx.out⟩
     ·have hr : r = [] := e1.2 hall
      subst hr
      clear e1 hall
      replace T := mK T
      go_enter Tryz.func38, Tryz.ntmps38
      go_wp2_with (go_at_call 75; refine T.out.mono ?_; rintro e w2 ⟨rfl, hx⟩; replace hx := mK hx)
      go_ret
      exact ⟨by simp [c1, c2, c3, c4], hx.out⟩
    ·clear T e1
     go_enter Tryz.func38, Tryz.ntmps38
     go_wp2_with fail
     go_ret
     exact ⟨by first | simp | simp [c1, c2, c3, c4], xR _⟩
   ·clear T e1
    go_enter Tryz.func38, Tryz.ntmps38
    go_wp2_with fail
    go_ret
    exact ⟨by first | simp | simp [c1, c2, c3], xR _⟩
  ·clear T e1
   go_enter Tryz.func38, Tryz.ntmps38
   go_wp2_with fail
   go_ret
   exact ⟨by first | simp | simp [c1, c2], xR _⟩
 ·clear T e1 hsz
  go_enter Tryz.func38, Tryz.ntmps38
  go_wp2_with fail
  go_ret
  exact ⟨by simp [c1], xR _⟩
end Go.Proofs.YtjelnmokcpoofaaGreatDoor
namespace Go.Proofs.YtjelnmokcpoofaaGreatDoor
set_option maxRecDepth 100000
open Go Go.RowKit Go.Proofs
theorem Row.near {w w' : World} {a : Option Addr} {xs : List Value} (h : Row w a xs) (e : ∀ g, a.map (·.block) = some g → w'.heap[g]? = w.heap[g]?) : Row w' a xs := by
 obtain ⟨b, off, h1, h2⟩ := h
 by_cases hx : xs = []
 ·subst hx
  exact ⟨b, off, h1, fun j hj => by simp at hj⟩
 ·have ha := h1 hx
  refine ⟨b, off, h1, fun j hj => ?_⟩
  have hb := e b (by rw [ha]; rfl)
  rw [← h2 j hj]
  exact World.cell?_of_block hb
theorem blks_mk {b : Bool} {a : Option Addr} {n c g : Nat} (h : a.map (·.block) = some g) : g ∈ Aloof.blks (.agg #[.bool b, .slice a n c]) := by
 cases a with
 | none => cases h
 | some a => simpa [Aloof.blks, Aloof.blk1, Value.cells, eq_comm] using h
theorem IntR.near {w w' : World} {v : Value} {x : Int} (h : IntR w v x) (e : ∀ g ∈ Aloof.blks v, w'.heap[g]? = w.heap[g]?) : IntR w' v x := by
 obtain ⟨s, rfl, a, c, rfl, h1, h2⟩ := h
 exact ⟨_, rfl, _, _, rfl, h1, h2.near fun g hg => e g (blks_mk hg)⟩
theorem FracR.near {w w' : World} {v : Value} {q : Rat} (h : FracR w v q) (e : ∀ g ∈ Aloof.blks v, w'.heap[g]? = w.heap[g]?) : FracR w' v q := by
 obtain ⟨b1, a1, n1, c1, b2, a2, n2, c2, rfl, h1, h2⟩ := h
 rw [blks_agg2] at e
 exact ⟨_, _, _, _, _, _, _, _, rfl, h1.near fun g hg => e g (List.mem_append_left _ hg), h2.near fun g hg => e g (List.mem_append_right _ hg)⟩
theorem PartR.near {w w' : World} {v : Value} {d : PD} (h : PartR w v d) (e : ∀ g ∈ Aloof.blks v, w'.heap[g]? = w.heap[g]?) : PartR w' v d := by
 obtain ⟨b1, a1, n1, c1, b2, a2, n2, c2, b3, a3, n3, c3, b4, a4, n4, c4, rfl, h1, h2⟩ := h
 rw [blks_part] at e
 exact ⟨_, _, _, _, _, _, _, _, _, _, _, _, _, _, _, _, rfl, h1.near fun g hg => e g (List.mem_append_left _ hg), h2.near fun g hg => e g (List.mem_append_right _ hg)⟩
theorem MagO.near {w w' : World} {base : Nat} {a : Option Addr} {n c : Nat} {l : List Nat} (h : MagO w base (.slice a n c) l) (e : ∀ g, a.map (·.block) = some g → w'.heap[g]? = w.heap[g]?) : MagO w' base (.slice a n c) l := by
 obtain ⟨h1, h | ⟨g, cap, cur, e1, h2, h3, r⟩⟩ := h
 ·exact ⟨h1, .inl h⟩
 ·cases e1
  exact ⟨h1, .inr ⟨g, _, cur, rfl, h2, (e g rfl).trans h3, r⟩⟩
theorem IntO.near {w w' : World} {base : Nat} {v : Value} {x : Int} (h : IntO w base v x) (e : ∀ g ∈ Aloof.blks v, w'.heap[g]? = w.heap[g]?) : IntO w' base v x := by
 obtain ⟨b, a, n, c, rfl⟩ := h.r.shape
 obtain ⟨s, e', hm⟩ := h
 cases e'
 exact ⟨_, rfl, hm.near fun g hg => e g (blks_mk hg)⟩
theorem FracO.near {w w' : World} {base : Nat} {v : Value} {q : Rat} (h : FracO w base v q) (e : ∀ g ∈ Aloof.blks v, w'.heap[g]? = w.heap[g]?) : FracO w' base v q := by
 obtain ⟨b1, a1, n1, c1, b2, a2, n2, c2, rfl, h1, h2⟩ := h
 rw [blks_agg2] at e
 exact ⟨_, _, _, _, _, _, _, _, rfl, h1.near fun g hg => e g (List.mem_append_left _ hg), h2.near fun g hg => e g (List.mem_append_right _ hg)⟩
theorem PartK.near {lo : Nat} {w w' : World} {v : Value} {d : PD} (h : PartK lo w v d) (e : ∀ g ∈ Aloof.blks v, w'.heap[g]? = w.heap[g]?) : PartK lo w' v d := by
 obtain ⟨b1, a1, n1, c1, b2, a2, n2, c2, b3, a3, n3, c3, b4, a4, n4, c4, rfl, h1, h2, h3⟩ := h
 rw [blks_part] at e
 exact ⟨_, _, _, _, _, _, _, _, _, _, _, _, _, _, _, _, rfl, h1.near fun g hg => e g (List.mem_append_left _ hg), h2.near fun g hg => e g (List.mem_append_right _ hg), h3⟩
def okPD (d : PD) : Prop := nf d.p ≤ 2048 ∧ nf d.q ≤ 2048 ∧ nameB d.nm.data.toList = true ∧ mayP d.kd d.co (some d.p) (some d.q) = true
structure Cat (w : World) (g M : Nat) (es : List (PD × Value)) : Prop where
 str : w.heap[g]? = some (.cells #[.map (some M)] 61 (0, 0))
 map : MapP w M es
 part : ∀ x ∈ es, PartR w x.2 x.1
 lie : ∀ x ∈ es, ∀ k ∈ Aloof.blks x.2, k < w.heap.size
 out : ∀ x ∈ es, ∀ k ∈ Aloof.blks x.2, k ≠ M
 ok : ∀ x ∈ es, okPD x.1
 few : es.length ≤ 64
def catB (g M : Nat) (es : List (PD × Value)) (k : Nat) : Prop := k = g ∨ k = M ∨ ∃ x ∈ es, k ∈ Aloof.blks x.2
theorem Cat.near {w w' : World} {g M : Nat} {es : List (PD × Value)} (h : Cat w g M es) (hs : w.heap.size ≤ w'.heap.size) (e : ∀ k, catB g M es k → w'.heap[k]? = w.heap[k]?) : Cat w' g M es :=
 ⟨(e g (.inl rfl)).trans h.str, h.map.blk (e M (.inr (.inl rfl))), fun x hx => (h.part x hx).near fun k hk => e k (.inr (.inr ⟨x, hx, hk⟩)), fun x hx k hk => Nat.lt_of_lt_of_le (h.lie x hx k hk) hs, h.out, h.ok, h.few⟩
theorem Cat.lt {w : World} {g M : Nat} {es : List (PD × Value)} (h : Cat w g M es) : ∀ k, catB g M es k → k < w.heap.size := by
 rintro k (rfl | rfl | ⟨x, hx, hk⟩)
 ·exact (Array.getElem?_eq_some_iff.1 h.str).1
 ·exact h.map.lt
 ·exact h.lie x hx k hk
theorem Cat.ext {w w' : World} {g M : Nat} {es : List (PD × Value)} (h : Cat w g M es) (e : Ext w w') : Cat w' g M es :=
 h.near e.size fun k hk => e.block k (h.lt k hk)
theorem Cat.ne {w : World} {g M : Nat} {es : List (PD × Value)} (h : Cat w g M es) : g ≠ M := by
 intro e
 obtain ⟨a, clock, hb, _⟩ := h.map
 have := h.str
 rw [e, hb] at this
 cases this
theorem mem_insP {x y : PD × Value} : ∀ {es : List (PD × Value)}, y ∈ insP x es ↔ y = x ∨ y ∈ es
 | [] => by simp [insP]
 | z :: r => by
  unfold insP
  split
  ·simp
  ·rw [List.mem_cons, mem_insP (es := r), List.mem_cons]
   constructor
   ·rintro (h | h | h)
    ·exact .inr (.inl h)
    ·exact .inl h
    ·exact .inr (.inr h)
   ·rintro (h | h | h)
    ·exact .inr (.inl h)
    ·exact .inl h
    ·exact .inr (.inr h)
structure FV where
 b1 : Bool
 a1 : Option Addr
 n1 : Nat
 c1 : Nat
 b2 : Bool
 a2 : Option Addr
 n2 : Nat
 c2 : Nat
theorem FracR.fv {w : World} {v : Value} {x : Rat} (h : FracR w v x) : ∃ p : FV, v = .agg #[.bool p.b1, .slice p.a1 p.n1 p.c1, .bool p.b2, .slice p.a2 p.n2 p.c2] := by
 obtain ⟨b1, a1, n1, c1, b2, a2, n2, c2, e⟩ := h.shape
 exact ⟨⟨b1, a1, n1, c1, b2, a2, n2, c2⟩, e⟩
theorem PartR.fv {w : World} {v : Value} {d : PD} (h : PartR w v d) : ∃ p q : FV, v = .agg #[.string d.nm, .int .u8 d.kd, .bool p.b1, .slice p.a1 p.n1 p.c1, .bool p.b2, .slice p.a2 p.n2 p.c2, .bool q.b1, .slice q.a1 q.n1 q.c1, .bool q.b2, .slice q.a2 q.n2 q.c2, .int .i64 d.co] ∧ FracR w (.agg #[.bool p.b1, .slice p.a1 p.n1 p.c1, .bool p.b2, .slice p.a2 p.n2 p.c2]) d.p ∧ FracR w (.agg #[.bool q.b1, .slice q.a1 q.n1 q.c1, .bool q.b2, .slice q.a2 q.n2 q.c2]) d.q := by
 obtain ⟨b1, a1, n1, c1, b2, a2, n2, c2, b3, a3, n3, c3, b4, a4, n4, c4, e, h1, h2⟩ := h
 exact ⟨⟨b1, a1, n1, c1, b2, a2, n2, c2⟩, ⟨b3, a3, n3, c3, b4, a4, n4, c4⟩, e, h1, h2⟩
theorem PartR.mk {w : World} {d : PD} {p q : FV} (h1 : FracR w (.agg #[.bool p.b1, .slice p.a1 p.n1 p.c1, .bool p.b2, .slice p.a2 p.n2 p.c2]) d.p) (h2 : FracR w (.agg #[.bool q.b1, .slice q.a1 q.n1 q.c1, .bool q.b2, .slice q.a2 q.n2 q.c2]) d.q) : PartR w (.agg #[.string d.nm, .int .u8 d.kd, .bool p.b1, .slice p.a1 p.n1 p.c1, .bool p.b2, .slice p.a2 p.n2 p.c2, .bool q.b1, .slice q.a1 q.n1 q.c1, .bool q.b2, .slice q.a2 q.n2 q.c2, .int .i64 d.co]) d :=
 ⟨_, _, _, _, _, _, _, _, _, _, _, _, _, _, _, _, rfl, h1, h2⟩
theorem may_v (nm : ByteArray) (kd co : Int) (p q : FV) (op oq : Option Rat) (w : World) (h1 : AnyF w (.agg #[.bool p.b1, .slice p.a1 p.n1 p.c1, .bool p.b2, .slice p.a2 p.n2 p.c2]) op) (h2 : AnyF w (.agg #[.bool q.b1, .slice q.a1 q.n1 q.c1, .bool q.b2, .slice q.a2 q.n2 q.c2]) oq) :
  Calls Tryz.prog 40 #[.agg #[.string nm, .int .u8 kd, .bool p.b1, .slice p.a1 p.n1 p.c1, .bool p.b2, .slice p.a2 p.n2 p.c2, .bool q.b1, .slice q.a1 q.n1 q.c1, .bool q.b2, .slice q.a2 q.n2 q.c2, .int .i64 co]] w fun e w' => e = .returned (.bool (mayP kd co op oq)) ∧ Ext w w' :=
 may_c nm kd co _ _ _ _ _ _ _ _ _ _ _ _ _ _ _ _ op oq w h1 h2
theorem gone_l (g M : Nat) (w : World) (h : w.heap[g]? = some (.cells #[.map (some M)] 61 (0, 0))) :
  Calls Tryz.prog 18 #[.pointer (some ⟨g, 0, none⟩)] w fun e w' => e = .returned (.bool false) ∧ w = w' := by
 have k0 := cell0 h
 clear h
 have hm : ∀ W, Sem.run Tryz.prog (binOp BinOp.eql 59 (Value.map (some M)) (Value.map none)) W = Result.ok (.bool false) W := fun W => by kernel_rfl
 go_enter Tryz.func18, Tryz.ntmps18
 go_wp2_with fail
 go_ret
 exact ⟨rfl, rfl⟩
theorem new_c (w : World) : Calls Tryz.prog 14 #[] w fun e w' => ∃ g M, e = .returned (.pointer (some ⟨g, 0, none⟩)) ∧ Cat w' g M [] ∧ Ext w w' ∧ w.heap.size ≤ g ∧ w.heap.size ≤ M := by
 have hmm := @run_makeMap Tryz.prog
 go_enter Tryz.func14, Tryz.ntmps14
 go_wp2_with fail
 go_ret
 refine ⟨_, _, rfl, ⟨heap_at _ _ _ (by simp), (mapP_made w).blk (heap_alloc_old _ _ (by simp)), by simp, by simp, by simp, by simp, by simp⟩, ((xR w).al _).al _, by omega, nR _⟩
theorem trim_lit (s : ByteArray) (w : World) (hs : s.size ≤ 9223372036854775807) :
  Calls Tryz.prog 75 #[.string s, .string ⟨#[48, 49, 50, 51, 52, 53, 54, 55, 56, 57]⟩] w fun e w' => e = .returned (.string ⟨(Lib.trimS s.data.toList digs).toArray⟩) ∧ Ext w w' :=
 Any.strings_Trim_laid Tryz.lays160 (by kernel_rfl) s ⟨#[48, 49, 50, 51, 52, 53, 54, 55, 56, 57]⟩ w hs (by decide) (ascii_of_all (by decide))
def ReadQ (w : World) (o : Option Int) (e : Ending) (w' : World) : Prop :=
 ∃ v b x, e = .returned (.tuple #[v, .bool b]) ∧ (o = some x ∧ b = true ∨ o = none ∧ b = false ∧ x = 0) ∧ IntO w' w.heap.size v x ∧ Ext w w'
theorem zeroO (w : World) (b : Nat) : IntO w b (.agg #[.bool false, .slice none 0 0]) 0 := ⟨.slice none 0 0, rfl, by show MagO _ _ _ (lim 0); rw [lim_zero]; exact magO_nil _ _⟩
theorem str_facts {D : ByteArray} {l : List UInt8} (h : D.data.toList = l) : D.toList = l ∧ D.size = l.length := by
 refine ⟨by rw [ByteArray.toList_eq, h], ?_⟩
 rw [← h]
 exact (Array.length_toList).symm
theorem empty_facts {l : List UInt8} {b : Bool} (h : decide (l = []) = b) : l.isEmpty = b ∧ (l == []) = b ∧ (l != []) = !b := by
 subst h
 cases l with
 | nil => exact ⟨rfl, rfl, rfl⟩
 | cons a r => exact ⟨rfl, rfl, rfl⟩
theorem first_byte {D : ByteArray} {l : List UInt8} (h : D.data.toList = l) (hs : 0 < D.size) : l.head? = some D[0] := by
 subst h
 obtain ⟨⟨l⟩⟩ := D
 cases l with
 | nil => simp [ByteArray.size] at hs
 | cons a r => rfl
theorem atoi_digits {l : List UInt8} {p : Nat} (h : Lib.decFrom 0 l = some p) (hl : l ≠ []) : Lib.atoi l = some (p : Int) := by
 cases l with
 | nil => exact absurd rfl hl
 | cons b r =>
  obtain ⟨d, hd⟩ := Lib.digit_of_decFrom (b :: r) 0 p h 0 b rfl
  have h45 : (b == 45) = false := by
   cases hb : b == 45 with
   | false => rfl
   | true => rw [eq_of_beq hb] at hd; cases hd
  have h43 : (b == 43) = false := by
   cases hb : b == 43 with
   | false => rfl
   | true => rw [eq_of_beq hb] at hd; cases hd
  unfold Lib.atoi Lib.decNat
  simp [h45, h43, h]
theorem ext_tail (C : ByteArray) (n : Nat) : (C.extract n C.size).data.toList = C.data.toList.drop n := by
 have h : (C.extract n C.size).data.toList = (C.data.toList.drop n).take (C.size - n) := by simp [List.extract]
 rw [h]
 exact List.take_of_length_le (by rw [List.length_drop, Array.length_toList]; exact nR _)
def szS : Value → Nat
 | .string D => D.size
 | _ => 0
def RdI (ds : List UInt8) (w1 : World) (v4 v6 : Value) (wr : World) : Prop :=
 ∃ (j m : Nat) (C : ByteArray), j ≤ ds.length ∧ v4 = .string C ∧ C.data.toList = ds.drop j ∧ Lib.decFrom 0 (ds.take j) = some m ∧ (j = 0 ∨ (ds.length - j) % 9 = 0) ∧ (lim m).length ≤ j ∧ MagO wr w1.heap.size v6 (lim m) ∧ Ext w1 wr
def MuI (w1 : World) (q : List Nat) (p : Nat) (a : Option Addr) (c : Nat) (v62 v10 : Value) (wr : World) : Prop :=
 ∃ (k cc : Nat) (cur : List Nat), k ≤ q.length ∧ v62 = .int .i64 k ∧ v10 = .int .u64 cc ∧ MuQ q p cur k cc ∧ wr.ownsRow w1.heap.size 140 1 (.slice a q.length c) q.length (limV cur) ∧ Ext w1 wr
theorem read_zero (s : ByteArray) (w w1 : World) (hE1 : Hid (Ext w w1)) (z1 : Hid (w1.heap[w.heap.size]? = some (.cells #[.bool false, .slice none 0 0] 50 (0, 0)))) (hsz1 : w1.heap.size = w.heap.size + 1)
  (hw1 : Hid (w1 = w.alloc (.cells #[.bool false, .slice none 0 0] 50))) (T : ByteArray)
  (KP : Hid (∀ W, Calls Tryz.prog 181 #[.string s, .string ⟨#[45]⟩] W fun e w' => e = .returned (.tuple #[.string ⟨#[48]⟩, .bool false]) ∧ w' = W))
  (KT : Hid (∀ W, Calls Tryz.prog 75 #[.string ⟨#[48]⟩, .string ⟨#[48, 49, 50, 51, 52, 53, 54, 55, 56, 57]⟩] W fun e w' => e = .returned (.string T) ∧ Ext W w'))
  (_t1 : T.toList.isEmpty = true) (_t2 : (T.toList == []) = true) (_t3 : (T.toList != []) = !true) :
  Calls Tryz.prog 125 #[.string s] w (ReadQ w (some 0)) := by
 have KA := mK (fun W => Tryz.strconv_Atoi ((⟨#[48]⟩ : ByteArray).extract 0 1) 0 (by decide) (by decide) W)
 obtain ⟨i0, hi, hz0, hz1, hz2⟩ := info_parts u32_info
 have x1 : ((⟨#[48]⟩ : ByteArray).extract 1 1) = ⟨#[]⟩ := by decide
 have x2 : ((⟨#[48]⟩ : ByteArray).toList != []) = true := by rw [ByteArray.toList_eq]; decide
 have x3 : ((⟨#[48]⟩ : ByteArray).size : Int) = 1 := rfl
 have y1 : ((⟨#[48]⟩ : ByteArray).toList == []) = false := by rw [ByteArray.toList_eq]; decide
 have y2 : ((⟨#[48]⟩ : ByteArray).toList.isEmpty) = false := by rw [ByteArray.toList_eq]; decide
 have hno := World.ownsRow_nil (w := w) w1.heap.size 140 1
 go_enter Tryz.func125, Tryz.ntmps125
 have tok : Tok 0 := .mk _
 go_wp2_with (first
  | (replace tok : Tok 1 := nxT 0 tok; go_at_call 181; rw [← hw1.out]; refine (KP.out _).mono ?_; rintro e w2 ⟨rfl, hw2⟩; rw [hw2]; clear hw2)
  | (replace tok : Tok 2 := nxT 1 tok; go_at_call 75; refine (KT.out w1).mono ?_; rintro e w3 ⟨rfl, hx⟩; replace hx := mK hx; (have z3 := mK (hx.out.blk z1.out)))
  | (replace tok : Tok 3 := nxT 2 tok; refine wpList_store_row rfl 50 (.tmp 2) (.tmp 37) rfl w.heap.size #[.bool false, .slice none 0 0] rfl rfl 50 _ z3.out (by kernel_rfl) rfl (by kernel_rfl) ?_))
 clear KP KT tok
 refine wp_loop_rounds 2 ?_
 rw [rounds_succ]
 have tok : Tok 20 := .mk _
 go_wp2_with (first
  | (replace tok : Tok 21 := nxT 20 tok; go_at_call 74; refine (KA.out _).mono ?_; rintro e w5 ⟨rfl, t, hw⟩; (have hE5 : Ext w3 w5 := by rw [hw]; exact Joins.below_bytesWorld _ _ _ _ (nR _)); replace hE5 := mK (hx.out.trans hE5); clear hw))
 refine wp_loop_rounds 1 ?_
 rw [rounds_succ]
 have z5 := mK (hE5.out.blk z1.out)
 have hno5 := mK (World.ownsRow_nil (w := w5) w1.heap.size 140 1)
 have c0 : (IntKind.u32.wrap 0) = 0 := by decide
 clear tok
 have tok : Tok 30 := .mk _
 go_wp2_with (first
  | (replace tok : Tok 31 := nxT 30 tok; at_builtin; refine wpList_append_own_at _ ?ya ?yb ?yc 48 ?yd w1.heap.size 140 i0 (.int .u32 0) 1 4 Tryz.underlying48 hi hz0 hz1 hz2 ?ye ?yf (.slice none 0 0) 0 [] ?yh (hno5.out.alloc (.cells #[.int .u32 0] 140)) ⟨w5.heap.size, 0, none⟩ 1 1 [.int .u32 0] ?yi ?yj ?zc1 ?zc2 ?zc3 ?zc4 ?zc5 ?_; (case ya => rfl); (case yd => rfl); (case ye => rfl); (case yf => decide); (case yh => rfl); (case yi => rfl); (case yj => rfl); (case zc1 => intro j u hj; rcases j with _ | j; (simp at hj; subst hj; simp [Addr.add]); (simp at hj)); (case zc2 => intro u hu; simp at hu; subst hu; rfl); (case zc3 => unfold maxLen; omega); (case zc4 => omega); (case zc5 => have := hE5.out.size; rw [World.size_alloc]; omega); intro v7 w7 hown7 hgrow7 _ _; (have hE7 := mK ((hE5.out.al (.cells #[.int .u32 0] 140)).gr hgrow7 (fun k e => by cases e))); (have hown : w7.ownsRow w1.heap.size 140 1 v7 ([0] : List Nat).length (limV [0]) := hown7); (obtain ⟨a7, c7, rfl, hc7, hr7⟩ := row_of_owns hown); (have TR := trim_c a7 [0] c7 w7 (fun x hx => by rw [List.mem_singleton.1 hx]; decide) (by decide) hc7 hr7); (have hv0 : lim (val [0]) = [] := by rw [show val [0] = 0 from rfl, lim_zero]); rw [hv0] at TR; (have hM := MagO.lim hown (fun x hx => by rw [List.mem_singleton.1 hx]; decide)); rw [hv0] at hM; (have KS := signed_c false w1.heap.size (.slice a7 ([] : List Nat).length c7) [] w7 (fun x hx => by cases hx) (by decide) hM); replace KS := mK KS; replace TR := mK TR; clear hgrow7 hown7 hr7 hown hM hv0)
  | (replace tok : Tok 32 := nxT 31 tok; go_at_call 91; refine TR.out.mono ?_; rintro e w8 ⟨rfl, hw8⟩; rw [← hw8]; clear hw8))
 rw [rounds_succ]
 go_wp2_with (first
  | (replace tok : Tok 33 := nxT 32 tok; go_at_call 89; refine KS.out.mono ?_; rintro e w9 ⟨v, rfl, hv, hx9⟩; (obtain ⟨vb, va, vn, vc, rfl⟩ := hv.r.shape); (have hE9 := mK (hE7.out.trans hx9)); (have z9 := mK (hE9.out.blk z1.out)); replace hv := mK hv; clear hx9)
  | (replace tok : Tok 34 := nxT 33 tok; refine wpList_store_row rfl 50 (.tmp 2) (.tmp 90) rfl w.heap.size #[.bool vb, .slice va vn vc] rfl rfl 50 _ z9.out (by kernel_rfl) rfl (by kernel_rfl) ?_))
 refine bodyPost_ret (results_row_tmp rfl _ _ w.heap.size 50 #[.bool vb, .slice va vn vc] _ _ rfl rfl (setRow_heap _ _ _ _ _ _ z9.out) Tryz.underlying50 rfl (by kernel_rfl)) rfl ?_
 exact ⟨_, _, 0, rfl, .inl ⟨rfl, rfl⟩, (hv.out.row (by omega) _).mono (by omega), (hE1.out.trans hE9.out).row (nR _) _⟩
set_option maxHeartbeats 6400000 in
theorem read_c (s : ByteArray) (w : World) (hs : s.size ≤ 65536) : Calls Tryz.prog 125 #[.string s] w (ReadQ w (readI s.data.toList)) := by
 obtain ⟨w1, hw1⟩ : ∃ w1, w1 = w.alloc (.cells #[.bool false, .slice none 0 0] 50) := ⟨_, rfl⟩
 have hE1 := mK (show Ext w w1 by rw [hw1]; exact (xR w).al _)
 have z1 := mK (show w1.heap[w.heap.size]? = some (.cells #[.bool false, .slice none 0 0] 50 (0, 0)) by rw [hw1]; exact heap_alloc_new _ _)
 have hsz1 : w1.heap.size = w.heap.size + 1 := by rw [hw1]; simp
 obtain ⟨ds, hds⟩ : ∃ ds, ds = bodyI s.data.toList := ⟨_, rfl⟩
 obtain ⟨NG, hNG⟩ : ∃ b, b = negI s.data.toList := ⟨_, rfl⟩
 obtain ⟨D, hD⟩ : ∃ D : ByteArray, D = ⟨ds.toArray⟩ := ⟨_, rfl⟩
 have hDl : D.data.toList = ds := by rw [hD]
 have hlen : ds.length ≤ 65536 := by
  have e : s.size = s.data.toList.length := (Array.length_toList).symm
  rw [hds]
  unfold bodyI
  split
  ·rw [List.length_tail]; omega
  ·omega
 obtain ⟨dl, dsz⟩ := str_facts hDl
 have KP := fun W => Tryz.strings_CutPrefix s ⟨#[45]⟩ W
 have e1 : Lib.trimPrefix s.data.toList (⟨#[45]⟩ : ByteArray).data.toList = ds := (trimPrefix_body _).1.trans hds.symm
 have e2 : Lib.hasPrefix s.data.toList (⟨#[45]⟩ : ByteArray).data.toList = NG := (trimPrefix_body _).2.trans hNG.symm
 simp only [e1, e2, ← hD] at KP
 obtain ⟨T, hT⟩ : ∃ T : ByteArray, T = ⟨(Lib.trimS ds digs).toArray⟩ := ⟨_, rfl⟩
 have KT := fun W => trim_lit D W (by omega)
 simp only [hDl, ← hT] at KT
 have hTl : T.toList = Lib.trimS ds digs := by rw [ByteArray.toList_eq, hT]
 have hR : readI s.data.toList = if (decide (ds = []) || (decide (ds.head? = some 48) && (decide (1 < ds.length) || NG))) = true then none else (Lib.decFrom 0 ds).map fun m => sg NG m := by
  rw [hds, hNG]
  rfl
 rw [hR]
 clear e1 e2 hD hT hR hds hNG
 replace KP := mK KP
 replace KT := mK KT
 replace hw1 := mK hw1
 by_cases h0 : ds = []
 ·obtain ⟨f1, f2, f3⟩ := empty_facts (l := D.toList) (b := true) (by rw [dl, h0]; rfl)
  rw [if_pos (by simp [h0])]
  clear dl dsz KT hTl
  go_enter Tryz.func125, Tryz.ntmps125
  have tok : Tok 0 := .mk _
  go_wp2_with (first
   | (replace tok : Tok 1 := nxT 0 tok; go_at_call 181; rw [← hw1.out]; refine (KP.out _).mono ?_; rintro e w2 ⟨rfl, hw2⟩; rw [hw2]; clear hw2)
   | (replace tok : Tok 2 := nxT 1 tok; refine wpList_store_row rfl 50 (.tmp 2) (.tmp 37) rfl w.heap.size #[.bool false, .slice none 0 0] rfl rfl 50 _ z1.out (by kernel_rfl) rfl (by kernel_rfl) ?_))
  refine bodyPost_ret (results_row_tmp rfl _ _ w.heap.size 50 #[.bool false, .slice none 0 0] _ _ rfl rfl (setRow_heap _ _ _ _ _ _ z1.out) Tryz.underlying50 rfl (by kernel_rfl)) rfl ?_
  exact ⟨_, _, 0, rfl, .inr ⟨rfl, rfl, rfl⟩, zeroO _ _, hE1.out.row (nR _) _⟩
 ·obtain ⟨f1, f2, f3⟩ := empty_facts (l := D.toList) (b := false) (by rw [dl]; exact decide_eq_false h0)
  have k1 : 0 < D.size := by rw [dsz]; exact List.length_pos_iff.2 h0
  have hh := first_byte hDl k1
  rw [hh]
  replace hDl := mK hDl
  by_cases h48 : D[0] = 48
  ·have g1 : (D[0].toNat == 48) = true := by rw [h48]; rfl
   have g2 : ((D[0].toNat : Int) == 48) = true := by rw [h48]; rfl
   by_cases h1 : 1 < ds.length
   ·have k3 : (1 : Int) < D.size := by omega
    rw [if_pos (by simp [h48, h1])]
    clear dl KT hTl hh
    go_enter Tryz.func125, Tryz.ntmps125
    have tok : Tok 0 := .mk _
    go_wp2_with (first
     | (replace tok : Tok 1 := nxT 0 tok; go_at_call 181; rw [← hw1.out]; refine (KP.out _).mono ?_; rintro e w2 ⟨rfl, hw2⟩; rw [hw2]; clear hw2)
     | (replace tok : Tok 2 := nxT 1 tok; refine wpList_store_row rfl 50 (.tmp 2) (.tmp 37) rfl w.heap.size #[.bool false, .slice none 0 0] rfl rfl 50 _ z1.out (by kernel_rfl) rfl (by kernel_rfl) ?_))
    refine bodyPost_ret (results_row_tmp rfl _ _ w.heap.size 50 #[.bool false, .slice none 0 0] _ _ rfl rfl (setRow_heap _ _ _ _ _ _ z1.out) Tryz.underlying50 rfl (by kernel_rfl)) rfl ?_
    exact ⟨_, _, 0, rfl, .inr ⟨rfl, rfl, rfl⟩, zeroO _ _, hE1.out.row (nR _) _⟩
   ·have k3 : ¬ (1 : Int) < D.size := by omega
    cases NG with
    | true =>
     rw [if_pos (by simp [h48])]
     clear dl KT hTl hh
     go_enter Tryz.func125, Tryz.ntmps125
     have tok : Tok 0 := .mk _
     go_wp2_with (first
      | (replace tok : Tok 1 := nxT 0 tok; go_at_call 181; rw [← hw1.out]; refine (KP.out _).mono ?_; rintro e w2 ⟨rfl, hw2⟩; rw [hw2]; clear hw2)
      | (replace tok : Tok 2 := nxT 1 tok; refine wpList_store_row rfl 50 (.tmp 2) (.tmp 37) rfl w.heap.size #[.bool false, .slice none 0 0] rfl rfl 50 _ z1.out (by kernel_rfl) rfl (by kernel_rfl) ?_))
     refine bodyPost_ret (results_row_tmp rfl _ _ w.heap.size 50 #[.bool false, .slice none 0 0] _ _ rfl rfl (setRow_heap _ _ _ _ _ _ z1.out) Tryz.underlying50 rfl (by kernel_rfl)) rfl ?_
     exact ⟨_, _, 0, rfl, .inr ⟨rfl, rfl, rfl⟩, zeroO _ _, hE1.out.row (nR _) _⟩
    | false =>
     rw [if_neg (by simp [h0, h1])]
     cases hN : Lib.decFrom 0 ds with
     | none =>
      obtain ⟨t1, t2, t3⟩ := empty_facts (l := T.toList) (b := false) (by
       rw [hTl]
       refine decide_eq_false fun e => ?_
       have := (trim_digs ds).1 e
       rw [hN] at this
       cases this)
      clear dl hTl hh
      go_enter Tryz.func125, Tryz.ntmps125
      have tok : Tok 0 := .mk _
      go_wp2_with (first
       | (replace tok : Tok 1 := nxT 0 tok; go_at_call 181; rw [← hw1.out]; refine (KP.out _).mono ?_; rintro e w2 ⟨rfl, hw2⟩; rw [hw2]; clear hw2)
       | (replace tok : Tok 2 := nxT 1 tok; go_at_call 75; refine (KT.out w1).mono ?_; rintro e w3 ⟨rfl, hx⟩; replace hx := mK hx; (have z3 := mK (hx.out.blk z1.out)))
       | (replace tok : Tok 3 := nxT 2 tok; refine wpList_store_row rfl 50 (.tmp 2) (.tmp 37) rfl w.heap.size #[.bool false, .slice none 0 0] rfl rfl 50 _ z3.out (by kernel_rfl) rfl (by kernel_rfl) ?_))
      refine bodyPost_ret (results_row_tmp rfl _ _ w.heap.size 50 #[.bool false, .slice none 0 0] _ _ rfl rfl (setRow_heap _ _ _ _ _ _ z3.out) Tryz.underlying50 rfl (by kernel_rfl)) rfl ?_
      exact ⟨_, _, 0, rfl, .inr ⟨rfl, rfl, rfl⟩, zeroO _ _, (hE1.out.trans hx.out).row (nR _) _⟩
     | some N =>
      obtain ⟨t1, t2, t3⟩ := empty_facts (l := T.toList) (b := true) (by
       rw [hTl]
       exact decide_eq_true ((trim_digs ds).2 (by rw [hN]; rfl)))
      have hl1 : ds.length = 1 := by have := List.length_pos_iff.2 h0; omega
      obtain rfl : ds = [48] := by
       cases hds : ds with
       | nil => exact absurd hds h0
       | cons a r =>
        rw [hds] at hh hl1
        have : r = [] := List.eq_nil_of_length_eq_zero (by simpa using hl1)
        simp only [List.head?_cons, Option.some.injEq] at hh
        rw [this, hh, h48]
      obtain rfl : D = ⟨#[48]⟩ := by
       apply ByteArray.ext
       apply Array.ext'
       exact hDl.out
      obtain rfl : N = 0 := by
       have : Lib.decFrom 0 [48] = some 0 := by decide
       rw [this] at hN
       exact (Option.some.inj hN).symm
      clear dl hTl hh hN g1 g2 h48 k1 f1 f2 f3 h1 k3 hl1 hlen dsz h0 hDl
      exact read_zero s w w1 hE1 z1 hsz1 hw1 T KP KT t1 t2 t3
  ·have g1 : (D[0].toNat == 48) = false := by
    cases hb : D[0].toNat == 48 with
    | false => rfl
    | true => exact absurd (UInt8.toNat_inj.1 (show D[0].toNat = (48 : UInt8).toNat from eq_of_beq hb)) h48
   have g2 : ((D[0].toNat : Int) == 48) = false := by
    cases hb : (D[0].toNat : Int) == 48 with
    | false => rfl
    | true => have := eq_of_beq hb; exact absurd (UInt8.toNat_inj.1 (show D[0].toNat = (48 : UInt8).toNat from by rw [show (48 : UInt8).toNat = 48 from rfl]; omega)) h48
   rw [if_neg (by simp [h0, h48])]
   cases hN : Lib.decFrom 0 ds with
   | none =>
    obtain ⟨t1, t2, t3⟩ := empty_facts (l := T.toList) (b := false) (by
     rw [hTl]
     refine decide_eq_false fun e => ?_
     have := (trim_digs ds).1 e
     rw [hN] at this
     cases this)
    clear dl hTl hh
    go_enter Tryz.func125, Tryz.ntmps125
    have tok : Tok 0 := .mk _
    go_wp2_with (first
     | (replace tok : Tok 1 := nxT 0 tok; go_at_call 181; rw [← hw1.out]; refine (KP.out _).mono ?_; rintro e w2 ⟨rfl, hw2⟩; rw [hw2]; clear hw2)
     | (replace tok : Tok 2 := nxT 1 tok; go_at_call 75; refine (KT.out w1).mono ?_; rintro e w3 ⟨rfl, hx⟩; replace hx := mK hx; (have z3 := mK (hx.out.blk z1.out)))
     | (replace tok : Tok 3 := nxT 2 tok; refine wpList_store_row rfl 50 (.tmp 2) (.tmp 37) rfl w.heap.size #[.bool false, .slice none 0 0] rfl rfl 50 _ z3.out (by kernel_rfl) rfl (by kernel_rfl) ?_))
    refine bodyPost_ret (results_row_tmp rfl _ _ w.heap.size 50 #[.bool false, .slice none 0 0] _ _ rfl rfl (setRow_heap _ _ _ _ _ _ z3.out) Tryz.underlying50 rfl (by kernel_rfl)) rfl ?_
    exact ⟨_, _, 0, rfl, .inr ⟨rfl, rfl, rfl⟩, zeroO _ _, (hE1.out.trans hx.out).row (nR _) _⟩
   | some N =>
    obtain ⟨t1, t2, t3⟩ := empty_facts (l := T.toList) (b := true) (by
     rw [hTl]
     exact decide_eq_true ((trim_digs ds).2 (by rw [hN]; rfl)))
    clear dl hTl hh
    replace hN := mK hN
    go_enter Tryz.func125, Tryz.ntmps125
    have tok : Tok 0 := .mk _
    go_wp2_with (first
     | (replace tok : Tok 1 := nxT 0 tok; go_at_call 181; rw [← hw1.out]; refine (KP.out _).mono ?_; rintro e w2 ⟨rfl, hw2⟩; rw [hw2]; clear hw2)
     | (replace tok : Tok 2 := nxT 1 tok; go_at_call 75; refine (KT.out w1).mono ?_; rintro e w3 ⟨rfl, hx⟩; replace hx := mK hx; (have z3 := mK (hx.out.blk z1.out)))
     | (replace tok : Tok 3 := nxT 2 tok; refine wpList_store_row rfl 50 (.tmp 2) (.tmp 37) rfl w.heap.size #[.bool false, .slice none 0 0] rfl rfl 50 _ z3.out (by kernel_rfl) rfl (by kernel_rfl) ?_))
    have st : RdI ds w1 (.string D) (.slice none 0 0) w3 := ⟨0, 0, D, Nat.zero_le _, rfl, hDl.out, rfl, .inl rfl, by rw [lim_zero]; exact nR _, by rw [lim_zero]; exact magO_nil _ _, hx.out⟩
    replace st := mK st
    clear tok KP KT hx z3
    go_loopw [4, 6] (fun v4 v6 wr => RdI ds w1 v4 v6 wr) (fun v4 _ _ => szS v4)
    case atStart => exact st.out
    case round =>
     clear st
     obtain ⟨j, m, C, hj, rfl, hC, hm, h9, hll, hM, hEr⟩ := hrel
     obtain ⟨w4, rfl⟩ : ∃ w4 : World, w4 = wr := ⟨_, rfl⟩
     obtain ⟨cl, cs⟩ := str_facts hC
     rw [List.length_drop] at cs
     by_cases hd : j = ds.length
     ·obtain ⟨f1, f2, f3⟩ := empty_facts (l := C.toList) (b := true) (by rw [cl, hd, List.drop_length]; rfl)
      have hmN : m = N := by
       rw [hd, List.take_length, hN.out] at hm
       exact (Option.some.inj hm).symm
      have KS := signed_c NG w1.heap.size u6 (lim m) w4 (lim_ok m) (by omega) hM
      rw [val_lim, hmN] at KS
      replace KS := mK KS
      replace hEr := mK hEr
      clear hM hC cl cs hm h9 hll hd hj
      have tok : Tok 10 := .mk _
      go_wp2_with (first
       | (replace tok : Tok 11 := nxT 10 tok; go_at_call 89; refine KS.out.mono ?_; rintro e w5 ⟨v, rfl, hv, hx⟩; (obtain ⟨vb, va, vn, vc, rfl⟩ := hv.r.shape); (have hE5 := mK (hEr.out.trans hx)); (have z5 := mK (hE5.out.blk z1.out)); replace hv := mK hv; clear hx)
       | (replace tok : Tok 12 := nxT 11 tok; refine wpList_store_row rfl 50 (.tmp 2) (.tmp 90) rfl w.heap.size #[.bool vb, .slice va vn vc] rfl rfl 50 _ z5.out (by kernel_rfl) rfl (by kernel_rfl) ?_))
      refine bodyPost_ret (results_row_tmp rfl _ _ w.heap.size 50 #[.bool vb, .slice va vn vc] _ _ rfl rfl (setRow_heap _ _ _ _ _ _ z5.out) Tryz.underlying50 rfl (by kernel_rfl)) rfl ?_
      exact ⟨_, _, sg NG N, rfl, .inl ⟨rfl, rfl⟩, (hv.out.row (by omega) _).mono (by omega), (hE1.out.trans hE5.out).row (nR _) _⟩
     ·obtain ⟨f1, f2, f3⟩ := empty_facts (l := C.toList) (b := false) (by
       rw [cl]
       refine decide_eq_false fun e => ?_
       have := congrArg List.length e
       rw [List.length_drop, List.length_nil] at this
       omega)
      obtain ⟨a, c, rfl, hcap, -⟩ := hM.r
      obtain ⟨i0, hi, hz0, hz1, hz2⟩ := info_parts u32_info
      obtain ⟨n, hn⟩ : ∃ n, n = (ds.length - j - 1) % 9 + 1 := ⟨_, rfl⟩
      have hn9 : n ≤ 9 := by omega
      have hn0 : 0 < n := by omega
      have hnj : j + n ≤ ds.length := by omega
      obtain ⟨m', p, hm', hp, hplt, hm2⟩ := decFrom_split ds N j n hN.out hnj
      obtain rfl : m' = m := by rw [hm'] at hm; exact Option.some.inj hm
      have hp9 : p < 1000000000 := Nat.lt_of_lt_of_le hplt (Nat.pow_le_pow_right (by omega) hn9 : 10 ^ n ≤ 10 ^ 9)
      have hmm : m' * 10 ^ n = m' * 1000000000 := by
       rcases h9 with h9 | h9
       ·subst h9
        rw [List.take_zero] at hm
        simp only [Lib.decFrom, Option.some.injEq] at hm
        rw [← hm, Nat.zero_mul, Nat.zero_mul]
       ·rw [show n = 9 by omega]
      have h9' : (ds.length - (j + n)) % 9 = 0 := by omega
      rw [hmm] at hm2
      have hPl : (C.extract 0 n).data.toList = (ds.drop j).take n := by
       rw [← hC]
       simp
      have hQl : (C.extract n C.size).data.toList = ds.drop (j + n) := by
       rw [← List.drop_drop, ← hC, ext_tail]
      have KA := mK (fun W => Tryz.strconv_Atoi (C.extract 0 n) p (by rw [ByteArray.size_extract]; omega) (atoi_digits (by rw [hPl]; exact hp) (by rw [hPl]; intro e; have := congrArg List.length e; rw [List.length_take, List.length_drop, List.length_nil] at this; omega)) W)
      have hcs : (C.size : Int) = (ds.length : Int) - j := by omega
      have hrem : Int.tmod ((C.size : Int) - 1) 9 + 1 = (n : Int) := by rw [Int.tmod_eq_emod_of_nonneg (by omega)]; omega
      have hrem' : Int.tmod ((C.size : Int) - 1) 9 = (n : Int) - 1 := by omega
      have hnC : n ≤ C.size := by omega
      have hX : wrap64 ((wrap64 ((C.size : Int) - 1)).tmod 9 + 1) = (n : Int) := by
       have w1' : wrap64 ((C.size : Int) - 1) = (C.size : Int) - 1 := by unfold wrap64; omega
       rw [w1', hrem]
       unfold wrap64; omega
      have hnC' : (n : Int) ≤ (C.size : Int) := by omega
      replace hM := mK hM
      replace hEr := mK hEr
      replace hPl := mK hPl
      replace hQl := mK hQl
      replace hm2 := mK hm2
      clear hC cl cs hm hm' hp hplt hmm h9
      replace hcap := mK hcap
      replace hcs := mK hcs
      replace hn := mK hn
      have tok : Tok 20 := .mk _
      go_wp2_with (first
       | (replace tok : Tok 21 := nxT 20 tok; go_at_call 74; refine (KA.out _).mono ?_; rintro e w5 ⟨rfl, t, hw⟩; (have hx : Ext w4 w5 := by rw [hw]; exact Joins.below_bytesWorld _ _ _ _ (nR _)); (have hE5 := mK (hEr.out.trans hx)); (have hM5 := mK (hM.out.ext hx)); clear hx hw))
      obtain ⟨q, hq⟩ : ∃ q, q = lim m' := ⟨_, rfl⟩
      have okq : OkL q := by rw [hq]; exact lim_ok _
      have hvq : val q = m' := by rw [hq, val_lim]
      rw [← hq] at hM5 hll ⊢
      have st : MuI w1 q p a c (.int .i64 0) (.int .u64 p) w5 := ⟨0, p, q, Nat.zero_le _, rfl, rfl, muQ_start okq (by omega), hM5.out, hE5.out⟩
      replace st := mK st
      replace hq := mK hq
      replace hvq := mK hvq
      clear tok KA hM hM5 hE5 hEr
      go_loopw [62, 10] (fun v62 v10 wr => MuI w1 q p a c v62 v10 wr) (fun v62 _ _ => q.length - (intOf v62).toNat)
      case atStart => exact st.out
      case round =>
       clear st
       obtain ⟨k, cc, cur, hk, rfl, rfl, hmu, ho, hEq⟩ := hrel
       obtain ⟨w6, rfl⟩ : ∃ w6 : World, w6 = wr := ⟨_, rfl⟩
       by_cases hlt : k < q.length
       ·have hlt' : (k : Int) < (q.length : Int) := by omega
        obtain ⟨g, rfl⟩ : ∃ g, a = some ⟨g, 0, none⟩ := by
         rcases ho.2 with ⟨e, h0⟩ | ⟨g, cap, cur', e, _⟩
         ·simp only [Value.slice.injEq] at e
          omega
         ·simp only [Value.slice.injEq] at e
          exact ⟨g, e.1⟩
        have hcl : cur.length = q.length := hmu.1
        have hx : cur.getD k 0 = q.getD k 0 := by
         have := congrArg (fun l => l.getD 0 0) hmu.2.2.2.1
         simpa [List.getD_eq_getElem?_getD, List.getElem?_drop] using this
        have hxl := okL_get okq k
        have hcc := hmu.2.2.1
        have hcell : w6.cell? ⟨g, k, none⟩ = some (.int .u32 (q.getD k 0 : Nat)) := by
         rw [ho.cellAt k (by omega), ← hx]
         have : k < cur.length := by omega
         simp [limV, this]
        have hfz := ho.frozenAt k
        have hnext := mK (muQ_step hmu hlt okq)
        generalize q.getD k 0 = x at *
        obtain ⟨Y, hY⟩ : ∃ Y, Y = (cc + x * 1000000000) % 4294967296 := ⟨_, rfl⟩
        obtain ⟨Z, hZ⟩ : ∃ Z, Z = (cc + x * 1000000000) / 4294967296 := ⟨_, rfl⟩
        rw [← hY, ← hZ] at hnext
        obtain ⟨hs1, hs2⟩ := ho.stored k (.int .u32 (Y : Nat))
        rw [limV_set] at hs1
        have hgl := (ho.lt g rfl).1
        have hS : (cc : Int) + (x : Int) * 1000000000 < 18446744073709551616 := by omega
        replace hs1 := mK hs1
        replace hs2 := mK hs2
        replace ho := mK ho
        replace hEq := mK hEq
        replace hmu := mK hmu
        replace hY := mK hY
        replace hZ := mK hZ
        go_wp2_with fail
        have e1 : ((cc : Int) + (x : Int) * 1000000000) / 4294967296 = ((Z : Nat) : Int) := by have := hZ.out; omega
        have e2 : ((cc : Int) + (x : Int) * 1000000000) % 4294967296 = ((Y : Nat) : Int) := by have := hY.out; omega
        rw [e1, e2]
        refine ⟨⟨k + 1, Z, cur.set k Y, by omega, by go_num, rfl, hnext.out, hs1.out, hEq.out.st hgl _⟩, by simp [intOf]; omega⟩
       ·have hke : k = q.length := by omega
        subst hke
        obtain ⟨hok2, hval2⟩ := muQ_end hmu
        have hcc := hmu.2.2.1
        have hcl : cur.length = q.length := hmu.1
        have hcm : (cc : Int) % 4294967296 = cc := by omega
        replace hok2 := mK hok2
        replace hval2 := mK hval2
        replace hEq := mK hEq
        replace ho := mK ho
        clear hmu hlt hk
        have tok : Tok 30 := .mk _
        go_wp2_with (first
         | (replace tok : Tok 31 := nxT 30 tok; at_builtin; refine wpList_append_own_at _ ?ya ?yb ?yc 48 ?yd w1.heap.size 140 i0 (.int .u32 0) 1 4 Tryz.underlying48 hi hz0 hz1 hz2 ?ye ?yf (.slice a q.length c) q.length _ ?yh (ho.out.alloc (.cells #[.int .u32 (cc : Int)] 140)) ⟨w6.heap.size, 0, none⟩ 1 1 [.int .u32 (cc : Int)] ?yi ?yj ?zc1 ?zc2 ?zc3 ?zc4 ?zc5 ?_; (case ya => rfl); (case yd => rfl); (case ye => rfl); (case yf => decide); (case yh => rfl); (case yi => rfl); (case yj => rfl); (case zc1 => intro j u hj; rcases j with _ | j; (simp at hj; subst hj; simp [Addr.add]); (simp at hj)); (case zc2 => intro u hu; simp at hu; subst hu; rfl); (case zc3 => unfold maxLen; omega); (case zc4 => omega); (case zc5 => have := hEq.out.size; rw [World.size_alloc]; omega); intro v7 w7 hown7 hgrow7 _ _; (have hE7 := mK ((hEq.out.al _).gr hgrow7 (fun k e => (ho.out.lt k e).1))); (have hown := (show w7.ownsRow w1.heap.size 140 1 v7 (cur ++ [cc]).length (limV (cur ++ [cc])) by rw [List.length_append, hcl, show limV (cur ++ [cc]) = limV cur ++ [.int .u32 (cc : Int)] by simp [limV]]; exact hown7)); (obtain ⟨a7, c7, rfl, hc7, hr7⟩ := row_of_owns hown); (have TR := trim_c a7 (cur ++ [cc]) c7 w7 hok2.out (by rw [List.length_append, List.length_singleton]; omega) hc7 hr7); rw [show (cur ++ [cc]).length = q.length + 1 by rw [List.length_append, hcl]; rfl] at TR; replace TR := mK TR; replace hown := mK hown; clear hgrow7 hown7 hr7)
         | (replace tok : Tok 32 := nxT 31 tok; go_at_call 91; refine TR.out.mono ?_; rintro e w8 ⟨rfl, hw8⟩; rw [← hw8]; clear hw8))
        have hfin : RdI ds w1 (.string (C.extract n C.size)) (.slice a7 (lim (val (cur ++ [cc]))).length c7) w7 := by
         refine ⟨j + n, m' * 1000000000 + p, _, hnj, rfl, hQl.out, hm2.out, .inr h9', ?_, ?_, hE7.out⟩
         ·rw [← hvq.out, ← hval2.out]
          refine nT (lim_length_val hok2.out) ?_
          rw [List.length_append, List.length_singleton]
          omega
         ·have := MagO.lim hown.out hok2.out
          rw [hval2.out, hvq.out] at this
          rw [hval2.out, hvq.out]
          exact this
        refine ⟨hfin, ?_⟩
        show (C.extract n C.size).size < C.size
        rw [ByteArray.size_extract]
        omega
end Go.Proofs.YtjelnmokcpoofaaGreatDoor
namespace Go.Proofs.YtjelnmokcpoofaaGreatDoor
set_option maxRecDepth 100000
open Go Go.RowKit Go.Proofs Go.Lib
theorem dg_low {q r j k : Nat} (h : j < k) : dg (q * 10 ^ k + r) j = dg r j := by
 have e : q * 10 ^ k = 10 ^ j * (q * 10 ^ (k - j - 1) * 10) := by
  have : 10 ^ k = 10 ^ j * (10 ^ (k - j - 1) * 10) := by
   rw [← Nat.pow_succ, ← Nat.pow_add]
   congr 1
   omega
  rw [this]
  grind
 have hd : (q * 10 ^ k + r) / 10 ^ j % 10 = r / 10 ^ j % 10 := by
  rw [e, Nat.mul_add_div (Nat.pow_pos (by omega)), Nat.mul_add_mod']
 unfold dg
 rw [hd]
theorem dg_high {q r i k : Nat} (h : r < 10 ^ k) : dg (q * 10 ^ k + r) (k + i) = dg q i := by
 have hd : (q * 10 ^ k + r) / 10 ^ k = q := by
  rw [Nat.mul_comm, Nat.mul_add_div (Nat.pow_pos (by omega)), Nat.div_eq_of_lt h, Nat.add_zero]
 unfold dg
 rw [Nat.pow_add, ← Nat.div_div_eq_div_mul, hd]
theorem pow_le_nDigits (q : Nat) (h : 0 < q) : 10 ^ (nDigits q - 1) ≤ q := by
 induction q using Nat.strongRecOn with
 | _ q ih =>
  by_cases h1 : q < 10
  ·rw [nDigits_small h1]
   exact h
  ·have := ih (q / 10) (by omega) (by omega)
   have hp := nDigits_pos (q / 10)
   rw [nDigits_big h1, show nDigits (q / 10) + 1 - 1 = (nDigits (q / 10) - 1) + 1 by omega, Nat.pow_succ]
   omega
theorem nDigits_shift {q r : Nat} (hq : 0 < q) : ∀ k, r < 10 ^ k → nDigits (q * 10 ^ k + r) = nDigits q + k := by
 intro k hr
 have h1 := lt_pow_nDigits q
 have hp := nDigits_pos q
 have h2 := pow_le_nDigits q hq
 have e : nDigits q + k = (nDigits q + k - 1) + 1 := by omega
 rw [e]
 refine nDigits_unique _ _ ?_ ?_
 ·rw [show nDigits q + k - 1 = nDigits q - 1 + k by omega, Nat.pow_add]
  exact nT (Nat.mul_le_mul_right _ h2) (Nat.le_add_right _ _)
 ·rw [show nDigits q + k - 1 + 1 = nDigits q + k by omega, Nat.pow_add]
  calc q * 10 ^ k + r < q * 10 ^ k + 10 ^ k := by omega
   _ = (q + 1) * 10 ^ k := by rw [Nat.add_mul, Nat.one_mul]
   _ ≤ 10 ^ nDigits q * 10 ^ k := Nat.mul_le_mul_right _ h1
def nine (r : Nat) : List UInt8 := (List.range 9).map fun t => dg r (8 - t)
theorem dec_nine {q r : Nat} (hq : 0 < q) (hr : r < 1000000000) : decDigits (q * 1000000000 + r) = decDigits q ++ nine r := by
 have hr' : r < 10 ^ 9 := hr
 rw [decDigits_eq, show q * 1000000000 + r = q * 10 ^ 9 + r from rfl, nDigits_shift hq 9 hr', List.range_add, List.map_append, decDigits_eq q]
 congr 1
 ·refine List.map_congr_left fun t ht => ?_
  have := List.mem_range.1 ht
  rw [show nDigits q + 9 - 1 - t = 9 + (nDigits q - 1 - t) by omega, dg_high hr']
 ·unfold nine
  rw [List.map_map]
  refine List.map_congr_left fun t ht => ?_
  have := List.mem_range.1 ht
  show dg _ (nDigits q + 9 - 1 - (nDigits q + t)) = _
  rw [show nDigits q + 9 - 1 - (nDigits q + t) = 8 - t by omega, dg_low (by omega)]
def val9 : List Nat → Nat
 | [] => 0
 | p :: r => p + 1000000000 * val9 r
def txt9 : List Nat → List UInt8
 | [] => []
 | [p] => decDigits p
 | p :: q :: r => txt9 (q :: r) ++ nine p
theorem val9_snoc (r : Nat) : ∀ ps : List Nat, val9 (ps ++ [r]) = val9 ps + 1000000000 ^ ps.length * r
 | [] => by simp [val9]
 | p :: ps => by
  have ih := val9_snoc r ps
  simp only [List.cons_append, val9, ih, List.length_cons, Nat.pow_succ]
  grind
theorem val9_pos : ∀ ps : List Nat, 0 < ps.getLastD 0 → 0 < val9 ps
 | [], h => by simp at h
 | [p], h => by simpa [val9] using h
 | p :: q :: r, h => by
  have := val9_pos (q :: r) (by simpa using h)
  unfold val9
  omega
theorem txt9_val : ∀ ps : List Nat, ps ≠ [] → (∀ p ∈ ps, p < 1000000000) → (ps.length = 1 ∨ 0 < ps.getLastD 0) → txt9 ps = decDigits (val9 ps)
 | [], h, _, _ => absurd rfl h
 | [p], _, _, _ => by simp [txt9, val9]
 | p :: q :: r, _, hp, hl => by
  have hl' : 0 < (q :: r).getLastD 0 := by
   rcases hl with h | h
   ·simp at h
   ·simpa using h
  have ih := txt9_val (q :: r) (by simp) (fun x hx => hp x (by simp [hx])) (.inr hl')
  have hv := val9_pos (q :: r) hl'
  rw [txt9, ih, show val9 (p :: q :: r) = val9 (q :: r) * 1000000000 + p by rw [val9, Nat.mul_comm, Nat.add_comm], dec_nine hv (hp p (by simp))]
theorem txt9_cons (p : Nat) {ps : List Nat} (h : ps ≠ []) : txt9 (p :: ps) = txt9 ps ++ nine p := by
 cases ps with
 | nil => exact absurd rfl h
 | cons q r => rfl
theorem nine_eq {p : Nat} (hp : p < 1000000000) : nine p = List.replicate (9 - nDigits p) 48 ++ decDigits p := by
 have h9 : nDigits p ≤ 9 := by
  rcases Nat.lt_or_ge 9 (nDigits p) with h | h
  ·rcases Nat.eq_zero_or_pos p with h0 | h0
   ·subst h0
    rw [nDigits_small (by omega)] at h
    omega
   ·have h1 := pow_le_nDigits p h0
    have h2 : 10 ^ 9 ≤ 10 ^ (nDigits p - 1) := Nat.pow_le_pow_right (by omega) (by omega)
    omega
  ·exact h
 unfold nine
 rw [decDigits_eq, show (9 : Nat) = (9 - nDigits p) + nDigits p by omega, List.range_add, List.map_append, List.map_map]
 congr 1
 ·rw [show (9 - nDigits p) + nDigits p - nDigits p = 9 - nDigits p by omega]
  refine List.ext_getElem (by simp) fun i h1 h2 => ?_
  simp only [List.getElem_map, List.getElem_range, List.getElem_replicate]
  have hi : i < 9 - nDigits p := by simpa using h1
  unfold dg
  rw [Nat.div_eq_of_lt (Nat.lt_of_lt_of_le (lt_pow_nDigits p) (Nat.pow_le_pow_right (by omega) (by omega)))]
  rfl
 ·refine List.map_congr_left fun t ht => ?_
  have := List.mem_range.1 ht
  show dg p (8 - (9 - nDigits p + t)) = _
  rw [show 8 - (9 - nDigits p + t) = nDigits p - 1 - t by omega]
def low9 (ps : List Nat) : List UInt8 := ps.flatMap fun p => (nine p).reverse
theorem low9_cons (p : Nat) (ps : List Nat) : low9 (p :: ps) = (nine p).reverse ++ low9 ps := List.flatMap_cons
theorem low9_txt : ∀ ps : List Nat, ps ≠ [] → (∀ p ∈ ps, p < 1000000000) → ∃ k, low9 ps = (txt9 ps).reverse ++ List.replicate k 48
 | [], h, _ => absurd rfl h
 | [p], _, h => by
  refine ⟨9 - nDigits p, ?_⟩
  rw [low9_cons, nine_eq (h p (by simp)), List.reverse_append, List.reverse_replicate]
  simp [low9, txt9]
 | p :: q :: r, _, h => by
  obtain ⟨k, e⟩ := low9_txt (q :: r) (by simp) (fun x hx => h x (List.mem_cons_of_mem _ hx))
  refine ⟨k, ?_⟩
  rw [low9_cons, e, txt9_cons p (by simp), List.reverse_append, List.append_assoc]
theorem low9_len (ps : List Nat) : (low9 ps).length = 9 * ps.length := by
 induction ps with
 | nil => rfl
 | cons p r ih =>
  rw [low9_cons, List.length_append, ih, List.length_reverse, List.length_cons]
  simp [nine]
  omega
theorem dec_head (n : Nat) (h : 0 < n) : ∃ x r, decDigits n = x :: r ∧ x ≠ 48 := by
 induction n using Nat.strongRecOn with
 | _ n ih =>
  by_cases h10 : n < 10
  ·refine ⟨UInt8.ofNat (48 + n), [], by rw [decDigits, dif_pos h10], fun e => ?_⟩
   have := congrArg UInt8.toNat e
   simp at this
   omega
  ·obtain ⟨x, r, e, hx⟩ := ih (n / 10) (by omega) (by omega)
   rw [decDigits, dif_neg h10, e]
   exact ⟨x, _, rfl, hx⟩
end Go.Proofs.YtjelnmokcpoofaaGreatDoor
namespace Go.Proofs.YtjelnmokcpoofaaGreatDoor
set_option maxRecDepth 100000
open Go Go.RowKit Go.Proofs
theorem infoPart : (Tryz.prog.info? 56).map (fun i => (i.zero, i.size, i.bytes)) = some (some zeroPart, 11, 160) := by kernel_rfl
def cellsP (os : List (PD × Value)) : List Value := os.flatMap fun x => x.2.cells.toList
def blksP (os : List (PD × Value)) : List Nat := os.flatMap fun x => Aloof.blks x.2
structure OutP (lo : Nat) (w : World) (s : Value) (os : List (PD × Value)) : Prop where
 row : w.ownsRow lo 56 11 s os.length (cellsP os)
 part : ∀ x ∈ os, PartK lo w x.2 x.1
 nod : (blksP os).Nodup
 own : ∀ g, s.ownBlock = some g → g ∉ blksP os
theorem outP_nil (lo : Nat) (w : World) : OutP lo w (.slice none 0 0) [] :=
 ⟨World.ownsRow_nil _ _ _ _, by simp, List.nodup_nil, by intro g h; cases h⟩
theorem OutP.ext {lo : Nat} {w w' : World} {s : Value} {os : List (PD × Value)} (h : OutP lo w s os) (e : Ext w w') : OutP lo w' s os :=
 ⟨ownsRow_ext h.row e, fun x hx => (h.part x hx).ext e, h.nod, h.own⟩
theorem OutP.mono {lo lo' : Nat} {w : World} {s : Value} {os : List (PD × Value)} (h : OutP lo w s os) (e : lo' ≤ lo) : OutP lo' w s os :=
 ⟨ownsRow_mono h.row e, fun x hx => (h.part x hx).mono e, h.nod, h.own⟩
theorem OutP.span {lo : Nat} {w : World} {s : Value} {os : List (PD × Value)} (h : OutP lo w s os) : ∀ g ∈ blksP os, lo ≤ g ∧ g < w.heap.size := by
 intro g hg
 obtain ⟨x, hx, hk⟩ := List.mem_flatMap.1 hg
 exact (h.part x hx).span g hk
theorem OutP.ownLt {lo : Nat} {w : World} {s : Value} {os : List (PD × Value)} (h : OutP lo w s os) : ∀ g, s.ownBlock = some g → lo ≤ g ∧ g < w.heap.size := by
 intro g hg
 rcases h.row.2 with ⟨e, _⟩ | ⟨k, cap, cur, e, h1, h2, _⟩
 ·rw [e] at hg
  cases hg
 ·rw [e] at hg
  cases hg
  exact ⟨h1, (Array.getElem?_eq_some_iff.1 h2).1⟩
theorem OutP.snoc {lo : Nat} {w w1 w2 : World} {s s' : Value} {os : List (PD × Value)} {d : PD} {v : Value} (h : OutP lo w s os) (hlo : lo ≤ w.heap.size) (hx : Ext w w1) (hv : PartK w.heap.size w1 v d)
  (hr : w2.ownsRow lo 56 11 s' (os.length + 1) (cellsP os ++ v.cells.toList)) (hg : w1.grownBy w2 s.ownBlock) (ha : s'.ownBlock = s.ownBlock ∨ s'.ownBlock = some w1.heap.size) : OutP lo w2 s' (os ++ [(d, v)]) := by
 have hb : ∀ k, k < w1.heap.size → s.ownBlock ≠ some k → w2.heap[k]? = w1.heap[k]? := fun k hk hne => hg.block k hk (fun e => hne e.symm)
 have hsp := (h.ext hx).span
 have hol := h.ownLt
 refine ⟨by simpa [cellsP] using hr, fun x hxm => ?_, ?_, fun g hgo hm => ?_⟩
 ·rcases List.mem_append.1 hxm with hm | hm
  ·refine ((h.part x hm).ext hx).near fun k hk => hb k (hsp k (List.mem_flatMap.2 ⟨x, hm, hk⟩)).2 fun e => h.own k e (List.mem_flatMap.2 ⟨x, hm, hk⟩)
  ·rw [List.mem_singleton] at hm
   subst hm
   refine (hv.mono hlo).near fun k hk => hb k (hv.span k hk).2 fun e => ?_
   have := (hol k e).2
   have := (hv.span k hk).1
   omega
 ·rw [show blksP (os ++ [(d, v)]) = blksP os ++ Aloof.blks v by simp [blksP]]
  refine List.nodup_append.2 ⟨h.nod, ?_, fun a ha' b hb' e => ?_⟩
  ·obtain ⟨b1, a1, n1, c1, b2, a2, n2, c2, b3, a3, n3, c3, b4, a4, n4, c4, e, h1, h2, h3⟩ := hv
   exact h3
  ·have := (h.span a ha').2
   have := (hv.span b hb').1
   omega
 ·rw [show blksP (os ++ [(d, v)]) = blksP os ++ Aloof.blks v by simp [blksP]] at hm
  rcases ha with ha | ha
  ·rw [ha] at hgo
   rcases List.mem_append.1 hm with hm | hm
   ·exact h.own g hgo hm
   ·have := (hol g hgo).2
    have := (hv.span g hm).1
    omega
  ·rw [ha] at hgo
   cases hgo
   rcases List.mem_append.1 hm with hm | hm
   ·have := (hsp _ hm).2
    omega
   ·have := (hv.span _ hm).2
    omega
theorem before_lt : ∀ (a b : List UInt8), bytesBefore a b = true → a < b
 | [], [], h => by simp [bytesBefore] at h
 | [], _ :: _, _ => List.nil_lt_cons ..
 | _ :: _, [], h => by simp [bytesBefore] at h
 | a :: r, b :: s, h => by
  simp only [bytesBefore, Bool.or_eq_true, decide_eq_true_eq, Bool.and_eq_true, beq_iff_eq] at h
  rw [List.cons_lt_cons_iff]
  rcases h with h | ⟨rfl, h⟩
  ·exact .inl h
  ·exact .inr ⟨rfl, before_lt r s h⟩
theorem names_sorted {es : List (PD × Value)} (hr : Rising es) {ss : List (List UInt8)} (hp : ss.Perm (strKeys (.map (es.map entM)))) : ss.mergeSort (fun x y => decide (x ≤ y)) = es.map fun x => x.1.nm.data.toList := by
 have e : strKeys (.map (es.map entM)) = es.map fun x => x.1.nm.data.toList := by
  show (es.map entM).map (fun p => strOf p.1) = _
  rw [List.map_map]
  rfl
 rw [e] at hp
 have h1 := mergeSort_of_perm hp
 show ss.mergeSort leB = _
 rw [h1]
 refine List.mergeSort_of_pairwise ?_
 rw [List.pairwise_map]
 exact hr.imp fun {a b} hab => by
  simp only [decide_eq_true_eq]
  exact List.le_of_lt (before_lt _ _ hab)
theorem findP_mem {es : List (PD × Value)} (hr : Rising es) : ∀ {x}, x ∈ es → findP x.1.nm es = some x := by
 induction es with
 | nil => intro x hx; cases hx
 | cons y r ih =>
  intro x hx
  obtain ⟨h1, h2⟩ := List.pairwise_cons.1 hr
  unfold findP
  rw [List.find?_cons]
  by_cases hn : nameIs x.1.nm y = true
  ·rw [hn]
   rcases List.mem_cons.1 hx with rfl | hx
   ·rfl
   ·have := h1 x hx
    unfold nameIs at hn
    rw [beq_iff_eq] at hn
    rw [hn, WideAt.bytes_irrefl] at this
    cases this
  ·rw [Bool.not_eq_true] at hn
   rw [hn]
   rcases List.mem_cons.1 hx with rfl | hx
   ·unfold nameIs at hn
    simp at hn
   ·exact ih h2 hx
theorem news_cells (w : World) (cs : List Value) (T : TypeId) : ∀ j u, cs[j]? = some u → (w.alloc (.cells cs.toArray T)).cell? (Addr.add ⟨w.heap.size, 0, none⟩ j) = some u := by
 intro j u hj
 have h : (w.alloc (.cells cs.toArray T)).heap[w.heap.size]? = some (.cells cs.toArray T (0, 0)) := heap_alloc_new _ _
 have e : (Addr.add ⟨w.heap.size, 0, none⟩ j) = ⟨w.heap.size, j, none⟩ := by
  unfold Addr.add
  by_cases h0 : j = 0
  ·subst h0; rfl
  ·simp [h0]
 rw [e]
 have := row16_cells h j
 rw [this]
 simpa using hj
theorem part_one (d : PD) (p q : FV) : ∀ u ∈ ([.string d.nm, .int .u8 d.kd, .bool p.b1, .slice p.a1 p.n1 p.c1, .bool p.b2, .slice p.a2 p.n2 p.c2, .bool q.b1, .slice q.a1 q.n1 q.c1, .bool q.b2, .slice q.a2 q.n2 q.c2, .int .i64 d.co] : List Value), u.oneCell' = true := by
 intro u hu
 simp only [List.mem_cons, List.not_mem_nil, or_false] at hu
 rcases hu with rfl | rfl | rfl | rfl | rfl | rfl | rfl | rfl | rfl | rfl | rfl <;> rfl
end Go.Proofs.YtjelnmokcpoofaaGreatDoor
namespace Go.Proofs
open Go.Shelf Go.RowKit Go.Maps Go.Sort
def Tryz.keys27_ren : Go.Shelf.Ren := ⟨fun | 7 => 27 | 10 => 57 | n => n, fun | 23 => 59 | 26 => 9 | 3 => 56 | 28 => 81 | 0 => 0 | 27 => 80 | 33 => 36 | 4 => 4 | n => n, fun | n => n⟩
theorem Tryz.keys27 : Go.Proofs.SlLaysZ.n7 Tryz.prog Tryz.keys27_ren := {
 mixed := by kernel_rfl
 f7 := ⟨Tryz.f27.name, by decide, Tryz.func27.trans (congrArg some (by kernel_rfl))⟩
 f10 := ⟨Tryz.f57.name, by decide, Tryz.func57.trans (congrArg some (by kernel_rfl))⟩
 t0 := Tryz.underlying0
 a0 := Tryz.isAgg0
 z0 := Tryz.sizeOf0
 v0 := Tryz.zeroValue0
 t4 := Tryz.underlying4
 a4 := Tryz.isAgg4
 z4 := Tryz.sizeOf4
 v4 := Tryz.zeroValue4
 t23 := Tryz.underlying59
 a23 := Tryz.isAgg59
 z23 := Tryz.sizeOf59
 v23 := Tryz.zeroValue59
 t26 := Tryz.underlying9
 a26 := Tryz.isAgg9
 z26 := Tryz.sizeOf9
 v26 := Tryz.zeroValue9
 t27 := Tryz.underlying80
 a27 := Tryz.isAgg80
 z27 := Tryz.sizeOf80
 v27 := Tryz.zeroValue80
 t28 := Tryz.underlying81
 a28 := Tryz.isAgg81
 z28 := Tryz.sizeOf81
 v28 := Tryz.zeroValue81
 t33 := Tryz.underlying36
 a33 := Tryz.isAgg36
 z33 := Tryz.sizeOf36
 v33 := Tryz.zeroValue36 }
def Tryz.sorted26_ren : Go.Shelf.Ren := ⟨fun | 6 => 26 | 8 => 55 | 9 => 56 | 11 => 95 | 13 => 97 | 12 => 96 | 23 => 158 | 24 => 159 | 14 => 149 | 15 => 150 | 16 => 151 | 17 => 152 | 18 => 153 | 19 => 154 | 20 => 155 | 21 => 156 | 22 => 157 | 25 => 197 | 26 => 198 | 27 => 199 | 28 => 200 | 29 => 201 | 30 => 202 | 31 => 223 | n => n, fun | 26 => 9 | 28 => 81 | 24 => 78 | 0 => 0 | 3 => 3 | 37 => 141 | 48 => 140 | 50 => 138 | 4 => 4 | 40 => 183 | 39 => 182 | 45 => 91 | 5 => 5 | 9 => 9 | 51 => 211 | 55 => 215 | 57 => 229 | 58 => 230 | 33 => 36 | n => n, fun | n => n⟩
theorem Tryz.sorted26 : Go.Proofs.SlLaysZ.n6 Tryz.prog Tryz.sorted26_ren := {
 mixed := by kernel_rfl
 f6 := ⟨Tryz.f26.name, by decide, Tryz.func26.trans (congrArg some (by kernel_rfl))⟩
 f8 := ⟨Tryz.f55.name, by decide, Tryz.func55.trans (congrArg some (by kernel_rfl))⟩
 f11 := ⟨Tryz.f95.name, by decide, Tryz.func95.trans (congrArg some (by kernel_rfl))⟩
 t0 := Tryz.underlying0
 a0 := Tryz.isAgg0
 z0 := Tryz.sizeOf0
 v0 := Tryz.zeroValue0
 t24 := Tryz.underlying78
 a24 := Tryz.isAgg78
 z24 := Tryz.sizeOf78
 v24 := Tryz.zeroValue78
 t26 := Tryz.underlying9
 a26 := Tryz.isAgg9
 z26 := Tryz.sizeOf9
 v26 := Tryz.zeroValue9
 t28 := Tryz.underlying81
 a28 := Tryz.isAgg81
 z28 := Tryz.sizeOf81
 v28 := Tryz.zeroValue81
 i26 := by kernel_rfl }
def Tryz.sort56_ren : Go.Shelf.Ren := ⟨fun | 6 => 56 | 8 => 97 | 9 => 96 | 19 => 158 | 20 => 159 | 21 => 149 | 22 => 150 | 23 => 151 | 24 => 152 | 25 => 153 | 26 => 154 | 27 => 155 | 28 => 156 | 29 => 157 | 36 => 197 | 31 => 198 | 32 => 199 | 37 => 200 | 38 => 201 | 39 => 202 | 41 => 223 | n => n, fun | 27 => 78 | 29 => 9 | 3 => 3 | 32 => 141 | 26 => 78 | 0 => 0 | 44 => 140 | 46 => 138 | 4 => 4 | 36 => 183 | 35 => 182 | 41 => 91 | 5 => 5 | 9 => 9 | 53 => 211 | 57 => 215 | 63 => 229 | 64 => 230 | n => n, fun | n => n⟩
theorem Tryz.sort56 : Go.Proofs.SlLaysM.n6 Tryz.prog Tryz.sort56_ren := {
 mixed := by kernel_rfl
 f6 := ⟨Tryz.f56.name, by decide, Tryz.func56.trans (congrArg some (by kernel_rfl))⟩
 f8 := Tryz.func97.trans (congrArg some (by kernel_rfl))
 f9 := ⟨Tryz.f96.name, by decide, Tryz.func96.trans (congrArg some (by kernel_rfl))⟩
 f19 := Tryz.func158.trans (congrArg some (by kernel_rfl))
 f20 := Tryz.func159.trans (congrArg some (by kernel_rfl))
 f21 := ⟨Tryz.f149.name, by decide, Tryz.func149.trans (congrArg some (by kernel_rfl))⟩
 f22 := ⟨Tryz.f150.name, by decide, Tryz.func150.trans (congrArg some (by kernel_rfl))⟩
 f23 := ⟨Tryz.f151.name, by decide, Tryz.func151.trans (congrArg some (by kernel_rfl))⟩
 f24 := ⟨Tryz.f152.name, by decide, Tryz.func152.trans (congrArg some (by kernel_rfl))⟩
 f25 := ⟨Tryz.f153.name, by decide, Tryz.func153.trans (congrArg some (by kernel_rfl))⟩
 f26 := ⟨Tryz.f154.name, by decide, Tryz.func154.trans (congrArg some (by kernel_rfl))⟩
 f27 := ⟨Tryz.f155.name, by decide, Tryz.func155.trans (congrArg some (by kernel_rfl))⟩
 f28 := ⟨Tryz.f156.name, by decide, Tryz.func156.trans (congrArg some (by kernel_rfl))⟩
 f29 := ⟨Tryz.f157.name, by decide, Tryz.func157.trans (congrArg some (by kernel_rfl))⟩
 f31 := Tryz.func198.trans (congrArg some (by kernel_rfl))
 f32 := Tryz.func199.trans (congrArg some (by kernel_rfl))
 f36 := ⟨Tryz.f197.name, by decide, Tryz.func197.trans (congrArg some (by kernel_rfl))⟩
 f37 := ⟨Tryz.f200.name, by decide, Tryz.func200.trans (congrArg some (by kernel_rfl))⟩
 f38 := ⟨Tryz.f201.name, by decide, Tryz.func201.trans (congrArg some (by kernel_rfl))⟩
 f39 := ⟨Tryz.f202.name, by decide, Tryz.func202.trans (congrArg some (by kernel_rfl))⟩
 f41 := ⟨Tryz.f223.name, by decide, Tryz.func223.trans (congrArg some (by kernel_rfl))⟩
 t0 := Tryz.underlying0
 a0 := Tryz.isAgg0
 z0 := Tryz.sizeOf0
 v0 := Tryz.zeroValue0
 t3 := Tryz.underlying3
 a3 := Tryz.isAgg3
 z3 := Tryz.sizeOf3
 v3 := Tryz.zeroValue3
 t4 := Tryz.underlying4
 a4 := Tryz.isAgg4
 z4 := Tryz.sizeOf4
 v4 := Tryz.zeroValue4
 t5 := Tryz.underlying5
 a5 := Tryz.isAgg5
 z5 := Tryz.sizeOf5
 v5 := Tryz.zeroValue5
 t9 := Tryz.underlying9
 a9 := Tryz.isAgg9
 z9 := Tryz.sizeOf9
 v9 := Tryz.zeroValue9
 t26 := Tryz.underlying78
 a26 := Tryz.isAgg78
 z26 := Tryz.sizeOf78
 v26 := Tryz.zeroValue78
 t27 := Tryz.underlying78
 a27 := Tryz.isAgg78
 z27 := Tryz.sizeOf78
 v27 := Tryz.zeroValue78
 t29 := Tryz.underlying9
 a29 := Tryz.isAgg9
 z29 := Tryz.sizeOf9
 v29 := Tryz.zeroValue9
 t32 := Tryz.underlying141
 a32 := Tryz.isAgg141
 z32 := Tryz.sizeOf141
 v32 := Tryz.zeroValue141
 t35 := Tryz.underlying182
 a35 := Tryz.isAgg182
 z35 := Tryz.sizeOf182
 v35 := Tryz.zeroValue182
 t36 := Tryz.underlying183
 a36 := Tryz.isAgg183
 z36 := Tryz.sizeOf183
 v36 := Tryz.zeroValue183
 t41 := Tryz.underlying91
 a41 := Tryz.isAgg91
 z41 := Tryz.sizeOf91
 v41 := Tryz.zeroValue91
 t44 := Tryz.underlying140
 a44 := Tryz.isAgg140
 z44 := Tryz.sizeOf140
 v44 := Tryz.zeroValue140
 t46 := Tryz.underlying138
 a46 := Tryz.isAgg138
 z46 := Tryz.sizeOf138
 v46 := Tryz.zeroValue138
 t53 := Tryz.underlying211
 a53 := Tryz.isAgg211
 z53 := Tryz.sizeOf211
 v53 := Tryz.zeroValue211
 t57 := Tryz.underlying215
 a57 := Tryz.isAgg215
 z57 := Tryz.sizeOf215
 v57 := Tryz.zeroValue215
 t63 := Tryz.underlying229
 a63 := Tryz.isAgg229
 z63 := Tryz.sizeOf229
 v63 := Tryz.zeroValue229
 t64 := Tryz.underlying230
 a64 := Tryz.isAgg230
 z64 := Tryz.sizeOf230
 v64 := Tryz.zeroValue230 }
theorem Tryz.sorts26 (m : Nat) : AnyZ.SortsIn Tryz.prog Tryz.sorted26_ren Fence.wide m :=
 ⟨fun blk off cap ss W hH hblk hsz => callsIn_wide.2 (AnyM.slices_Sort_string Tryz.sort56 blk off cap ss W hH hblk hsz),
 fun p cap W => callsIn_wide.2 (AnyM.slices_Sort_string_none Tryz.sort56 p cap W)⟩

theorem Tryz.maps_Keys_27 (mb : Option Nat) (W : World) : CallsIn Fence.wide 5 Tryz.prog 27 #[.map mb] W fun e w' => e = .returned (.func (.func 57) #[] #[.pointer (some ⟨W.heap.size, 0, none⟩)]) ∧ w' = W.alloc (.cells #[.map mb] 59) :=
 AnyZ.keys_in Tryz.keys27 Fence.wide 5 trivial rfl mb W

set_option maxHeartbeats 1000000 in
theorem Tryz.slices_Sorted_keys_26_27 {H : Type} (b nn : Nat) (D0 : DataW H) (R : Value → Option (DataW H × List MemPlace)) (w : World) (hown : w.ownsMap Tryz.prog 9 R b nn D0) (hmax : Maps.size D0 ≤ maxLen) (hbytes : Maps.size D0 * 16 ≤ 140737488355328) :
  CallsIn Fence.wide 5 Tryz.prog 26 #[.func (.func 57) #[] #[.pointer (some ⟨w.heap.size, 0, none⟩)]] (w.alloc (.cells #[.map (some b)] 59)) fun e w' => ∃ (v : Value) (ss : List (List UInt8)), e = .returned v ∧ ss.Perm (strKeys D0) ∧
   w'.ownsRow (w.alloc (.cells #[.map (some b)] 59)).heap.size 9 1 v ss.length ((ss.mergeSort (fun x y => decide (x ≤ y))).map encStr) ∧ (v = .slice none 0 0 ↔ ss = []) ∧ Below (w.alloc (.cells #[.map (some b)] 59)).heap.size (w.alloc (.cells #[.map (some b)] 59)) w' := by
 have hbl := hown.lt
 have hseq : SeqGives Fence.wide 2 Tryz.prog 57 #[.pointer (some ⟨w.heap.size, 0, none⟩)] encStr (fun ss => ss.Perm (strKeys D0)) (Maps.size D0) (w.alloc (.cells #[.map (some b)] 59)) :=
  AnyZ.keys_gives (ρ := Tryz.keys27_ren) { Tryz.keys27 with } Fence.wide _ trivial rfl (by omega) w.heap.size b nn D0 _ (by simp) (by simp) (by
   obtain ⟨es, clock, hb, Ft, hs, hD⟩ := hown
   exact ⟨es, clock, (Below.heap_alloc _ _ b hbl).trans hb, Ft, hs, hD⟩)
 exact AnyZ.sorted_in Tryz.sorted26 Fence.wide 5 trivial trivial trivial trivial rfl (by omega) (Tryz.sorts26 _) (enters_of Tryz.func56 (by kernel_rfl) rfl) 57 #[.pointer (some ⟨w.heap.size, 0, none⟩)] trivial (enters_of Tryz.func57 (by kernel_rfl) rfl) _ _ hmax hbytes _ hseq

end Go.Proofs
namespace Go.Proofs.YtjelnmokcpoofaaGreatDoor
set_option maxRecDepth 100000
open Go Go.RowKit Go.Proofs
def AllR (w1 : World) (es : List (PD × Value)) (t3 t15 : Value) (wr : World) : Prop :=
 ∃ (os : List (PD × Value)) (k : Nat), k ≤ es.length ∧ t15 = .int .i64 k ∧ os.length = k ∧ os.map (·.1) = (es.take k).map (·.1) ∧ OutP w1.heap.size wr t3 os ∧ Ext w1 wr
def AllQ (w : World) (es : List (PD × Value)) (e : Ending) (w' : World) : Prop := ∃ v os, e = .returned v ∧ OutP w.heap.size w' v os ∧ os.map (·.1) = es.map (·.1) ∧ Ext w w'
theorem row_name {w : World} {b o : Nat} {es : List (PD × Value)} (h : Row w (some ⟨b, o, none⟩) ((es.map fun x => x.1.nm.data.toList).map encStr)) (j : Nat) (hj : j < es.length) :
  w.cell? ⟨b, o + j, none⟩ = some (.string es[j].1.nm) := by
 obtain ⟨b', o', e, hc⟩ := h
 have e := e (by intro e; simp at e; simp [e] at hj)
 cases e
 rw [hc j (by simpa using hj)]
 simp [List.getD_eq_getElem?_getD, hj]
set_option maxHeartbeats 1600000 in
theorem all_l (w : World) (g M : Nat) (es : List (PD × Value)) (h : Cat w g M es) :
  Calls Tryz.prog 10 #[.pointer (some ⟨g, 0, none⟩)] w (AllQ w es) := by
 obtain ⟨i0, hi, hz0, hz1, hz2⟩ := info_parts infoPart
 have hG := mK (gone_l g M w h.str)
 have cg := cell0 h.str
 have hKS := mK (callsIn_wide.1 (Tryz.maps_Keys_27 (some M) w))
 have hSS := mK (callsIn_wide.1 (Tryz.slices_Sorted_keys_26_27 M es.length (.map (es.map entM)) heldR w h.map (by rw [Maps.size_eq, List.length_map]; have := h.few; unfold maxLen; omega) (by rw [Maps.size_eq, List.length_map]; have := h.few; omega)))
 have hri := mK h.map.rising
 have hC := mK (fun W (e : Ext w W) => h.ext e)
 have hfew := h.few
 clear h
 go_enter Tryz.func10, Tryz.ntmps10
 have tok : Tok 0 := .mk _
 go_wp2_with (first
  | (replace tok : Tok 1 := nxT 0 tok; go_at_call 18; refine hG.out.mono ?_; rintro e w' ⟨rfl, rfl⟩)
  | (replace tok : Tok 2 := nxT 1 tok; go_at_call 27; refine hKS.out.mono ?_; rintro e w' ⟨rfl, rfl⟩)
  | (replace tok : Tok 3 := nxT 2 tok; go_at_call 26; refine hSS.out.mono ?_; rintro e w1 ⟨v, ss, rfl, hp, hrow, hnil, hB⟩; (obtain ⟨a, c, rfl, hca, hrw⟩ := row_of_owns hrow); rw [names_sorted hri.out hp] at hrw; (have hlen : ss.length = es.length := by (have := hp.length_eq; simpa [strKeys] using this)); rw [hlen] at hca ⊢; (have hE1 := mK (((xR w).al (.cells #[.map (some M)] 59)).trans hB)); replace hrw := mK hrw; replace hca := mK hca; clear hp hrow hnil hB hlen))
 clear tok hKS hSS hG cg hri
 have st : AllR w1 es (.slice none 0 0) (.int .i64 0) w1 := ⟨[], 0, Nat.zero_le _, rfl, rfl, by simp, outP_nil _ _, xR _⟩
 replace st := mK st
 go_loopw [3, 15] (fun t3 t15 wr => AllR w1 es t3 t15 wr) (fun _ i _ => es.length - (intOf i).toNat)
 case atStart => exact st.out
 case round =>
  clear st
  obtain ⟨os, k, hk, rfl, hol, hmap, hO, hEr⟩ := hrel
  obtain ⟨w2, rfl⟩ : ∃ w2 : World, w2 = wr := ⟨_, rfl⟩
  by_cases hlt : k < es.length
  ·have hxm : es[k] ∈ es := List.getElem_mem hlt
   obtain ⟨d, v, hdv⟩ : ∃ d v, es[k] = (d, v) := ⟨_, _, rfl⟩
   have hCw := hC.out w2 (hE1.out.trans hEr)
   rw [hdv] at hxm
   obtain ⟨p, q, e0, -, -⟩ := (hCw.part _ hxm).fv
   have e0' : v = .agg #[.string d.nm, .int .u8 d.kd, .bool p.b1, .slice p.a1 p.n1 p.c1, .bool p.b2, .slice p.a2 p.n2 p.c2, .bool q.b1, .slice q.a1 q.n1 q.c1, .bool q.b2, .slice q.a2 q.n2 q.c2, .int .i64 d.co] := e0
   subst e0'
   obtain ⟨b, o, rfl⟩ : ∃ b o, a = some ⟨b, o, none⟩ := by
    obtain ⟨b, o, e, _⟩ := hrw.out
    exact ⟨b, o, e (by intro e; simp at e; rw [e] at hlt; simp at hlt)⟩
   have hcell := row_name (hrw.out.ext hEr) k hlt
   rw [hdv] at hcell
   replace hcell : w2.cell? ⟨b, o + k, none⟩ = some (.string d.nm) := hcell
   have hnm : d.nm.size ≤ 9223372036854775807 := by
    have := (hCw.ok _ hxm).2.2.1
    unfold nameB at this
    simp only [Bool.and_eq_true, decide_eq_true_eq] at this
    have := this.2.1
    rw [Array.length_toList] at this
    show d.nm.data.size ≤ _
    omega
   have hlk := hCw.map.look1 d.nm hnm
   rw [findP_mem hCw.map.rising hxm] at hlk
   replace hlk : (Instr.lookup 59 (.map (some M)) (.string d.nm) false).run Tryz.prog w2 = .ok (.agg #[.string d.nm, .int .u8 d.kd, .bool p.b1, .slice p.a1 p.n1 p.c1, .bool p.b2, .slice p.a2 p.n2 p.c2, .bool q.b1, .slice q.a1 q.n1 q.c1, .bool q.b2, .slice q.a2 q.n2 q.c2, .int .i64 d.co]) w2 := hlk
   have cg2 := cell0 hCw.str
   have hK := mK (copied_k (.agg #[.string d.nm, .int .u8 d.kd, .bool p.b1, .slice p.a1 p.n1 p.c1, .bool p.b2, .slice p.a2 p.n2 p.c2, .bool q.b1, .slice q.a1 q.n1 q.c1, .bool q.b2, .slice q.a2 q.n2 q.c2, .int .i64 d.co]) d w2 (nT (hCw.ok _ hxm).1 (by decide)) (nT (hCw.ok _ hxm).2.1 (by decide)) (hCw.part _ hxm))
   have hlt' : (k : Int) < (es.length : Int) := by omega
   replace hO := mK hO
   replace hEr := mK hEr
   replace hdv := mK hdv
   replace hmap := mK hmap
   replace hol := mK hol
   clear hCw hxm e0 hnm
   have tok : Tok 10 := .mk _
   go_wp2_with (first
    | (replace tok : Tok 11 := nxT 10 tok; go_at_call 28; refine hK.out.mono ?_; rintro e w3 ⟨v3, rfl, hE3, hv3⟩; (obtain ⟨p', q', rfl, -, -⟩ := hv3.r.fv); replace hE3 := mK hE3; replace hv3 := mK hv3)
    | (replace tok : Tok 12 := nxT 11 tok; at_builtin; (have X := hO.out.ext hE3.out); (have Z := X.row.alloc (.cells #[.string d.nm, .int .u8 d.kd, .bool p'.b1, .slice p'.a1 p'.n1 p'.c1, .bool p'.b2, .slice p'.a2 p'.n2 p'.c2, .bool q'.b1, .slice q'.a1 q'.n1 q'.c1, .bool q'.b2, .slice q'.a2 q'.n2 q'.c2, .int .i64 d.co] 56)); (have U := Tryz.underlying27); refine wpList_append_own_at _ ?ya ?yb ?yc 27 ?yd w1.heap.size 56 i0 zeroPart 11 160 U hi hz0 hz1 hz2 ?ye ?yf u3 os.length (cellsP os) ?yh Z ⟨w3.heap.size, 0, none⟩ 1 1 [.string d.nm, .int .u8 d.kd, .bool p'.b1, .slice p'.a1 p'.n1 p'.c1, .bool p'.b2, .slice p'.a2 p'.n2 p'.c2, .bool q'.b1, .slice q'.a1 q'.n1 q'.c1, .bool q'.b2, .slice q'.a2 q'.n2 q'.c2, .int .i64 d.co] ?yi ?yj ?zc1 ?zc2 ?zc3 ?zc4 ?zc5 ?_; (case ya => rfl); (case yd => rfl); (case ye => rfl); (case yf => decide); (case yh => rfl); (case yi => rfl); (case yj => rfl); (case zc1 => exact news_cells w3 _ _); (case zc2 => exact part_one d p' q'); (case zc3 => have := hol.out; unfold maxLen; omega); (case zc4 => have := hol.out; omega); (case zc5 => have := hEr.out.size; have := hE3.out.size; rw [World.size_alloc]; omega); intro v4 w4 hown4 hgrow4 _ hloc4; clear X Z U; replace hown4 := mK hown4; replace hgrow4 := mK hgrow4; replace hloc4 := mK hloc4))
   have hx := (hE3.out.al (.cells #[.string d.nm, .int .u8 d.kd, .bool p'.b1, .slice p'.a1 p'.n1 p'.c1, .bool p'.b2, .slice p'.a2 p'.n2 p'.c2, .bool q'.b1, .slice q'.a1 q'.n1 q'.c1, .bool q'.b2, .slice q'.a2 q'.n2 q'.c2, .int .i64 d.co] 56))
   have hO4 := hO.out.snoc hEr.out.size hx (hv3.out.ext ((xR w3).al _)) hown4.out hgrow4.out hloc4.out
   have hE4 : Ext w1 w4 := (hEr.out.trans hx).gr hgrow4.out fun k e => (hO.out.ownLt k e).1
   have hm4 : (os ++ [(d, Value.agg #[.string d.nm, .int .u8 d.kd, .bool p'.b1, .slice p'.a1 p'.n1 p'.c1, .bool p'.b2, .slice p'.a2 p'.n2 p'.c2, .bool q'.b1, .slice q'.a1 q'.n1 q'.c1, .bool q'.b2, .slice q'.a2 q'.n2 q'.c2, .int .i64 d.co])]).map (·.1) = (es.take (k + 1)).map (·.1) := by
    rw [List.map_append, hmap.out, List.take_succ_eq_append_getElem hlt, List.map_append, hdv.out]
    rfl
   refine ⟨⟨_, k + 1, by omega, by go_num, by simp [hol.out], hm4, hO4, hE4⟩, by simp [intOf]; omega⟩
  ·have hk2 : k = es.length := by omega
   subst hk2
   rw [List.take_length] at hmap
   replace hO := mK hO
   replace hEr := mK hEr
   replace hmap := mK hmap
   clear hol
   go_wp2_with fail
   go_ret
   exact ⟨_, os, rfl, hO.out.mono hE1.out.size, hmap.out, hE1.out.trans hEr.out⟩
def cS (a b : Rat) : Int := (a.num * b.den - b.num * a.den).sign
end Go.Proofs.YtjelnmokcpoofaaGreatDoor
