/-
  frac: Check, Sign, Cmp; law25: far. law25: far: printed by tools/gen_far.py. law25: CatalogNearest, walked: printed by tools/gen_nearest.py. What a row of this seat gives at its first world: the powers of ten, the library's number, a list of parts. CatalogNearest: for every list of parts and every power that come in the law returns true, and what came in reads as it did. The card ties the row's seven listed variables to the program's text; of these the proof looks into internal/strconv's powers of ten alone.
-/
import Derived.Test.YtkkfgphcmnhabaaGreatDoorKAM
import Derived.Test.YtkkfgphcmnhabaaGreatDoorKAL
import Derived.Test.YtkkfgphcmnhabaaGreatDoorKAF
import Derived.Test.YtkkfgphcmnhabaaGreatDoorKAI
import Derived.Test.YtkkfgphcmnhabaaGreatDoorKAK
import Derived.Test.YtkkfgphcmnhabaaGreatDoorRows
import Derived.Shelf.Vars
import Derived.ProofKit
import Derived.LaidMore
import Derived.OpenShut
import Derived.Lay
import Derived.Stop.Joined
import Derived.Lib.SmallJoins
import Derived.SevenTiedAt
import Derived.Test.YtkkfgphcmnhabaaGreatDoorCards
import Derived.Test.YtkkfgphcmnhabaaGreatDoorTie
namespace Go.Proofs.YtkkfgphcmnhabaaGreatDoor
set_option maxRecDepth 100000
open Go Go.RowKit Go.Proofs
set_option maxHeartbeats 1600000 in
theorem fcheck_f (v : Value) (o : Option Rat) (w : World) (h : AnyF w v o) :
    Calls Tryz.prog 18 #[v] w fun e w' => e = .returned (.int .i64 (if o.isSome then 0 else 1)) ∧ Ext w w' := by
  obtain ⟨p, rfl⟩ := h.fv
  obtain ⟨w1, hw1⟩ : ∃ w1, w1 = w.alloc (.cells #[.bool p.b1, .slice p.a1 p.n1 p.c1, .bool p.b2, .slice p.a2 p.n2 p.c2] 34) := ⟨_, rfl⟩
  have hE : Ext w w1 := by rw [hw1]; exact (Ext.refl w).al _
  have z := mkHid (show w1.heap[w.heap.size]? = some (.cells #[.bool p.b1, .slice p.a1 p.n1 p.c1, .bool p.b2, .slice p.a2 p.n2 p.c2] 34 (0, 0)) by rw [hw1]; exact heap_alloc_new _ _)
  have K := mkHid (check_f _ o w1 (h.ext hE))
  generalize (if o.isSome then (0 : Int) else 1) = C at *
  replace hw1 := mkHid hw1
  replace hE := mkHid hE
  clear h
  go_enter Tryz.func18, Tryz.ntmps18
  have tok : Tok 0 := .mk _
  go_wp2_with (first
    | ((have _t : Tok 0 := tok); clear _t; clear tok; (have tok : Tok 1 := .mk _); rw [← hw1.out]; refine wpList_load_row (by rfl) 34 (.tmp 1) rfl w.heap.size rfl 34 #[.bool p.b1, .slice p.a1 p.n1 p.c1, .bool p.b2, .slice p.a2 p.n2 p.c2] (0, 0) _ z.out Tryz.underlying34 rfl (by kernel_rfl) ?_)
    | ((have _t : Tok 1 := tok); clear _t; clear tok; (have tok : Tok 2 := .mk _); go_at_call 37; refine K.out.mono ?_; rintro e w2 ⟨rfl, hx⟩; replace hE := mkHid (hE.out.trans hx); clear hx))
  go_ret
  exact ⟨rfl, hE.out⟩
set_option maxHeartbeats 1600000 in
theorem fsign_f (v : Value) (x : Rat) (w : World) (h : AnyF w v (some x)) :
    Calls Tryz.prog 49 #[v] w fun e w' => e = .returned (.int .i64 x.num.sign) ∧ Ext w w' := by
  obtain ⟨p, rfl⟩ := h.fv
  obtain ⟨w1, hw1⟩ : ∃ w1, w1 = w.alloc (.cells #[.bool p.b1, .slice p.a1 p.n1 p.c1, .bool p.b2, .slice p.a2 p.n2 p.c2] 34) := ⟨_, rfl⟩
  have hE : Ext w w1 := by rw [hw1]; exact (Ext.refl w).al _
  have z := mkHid (show w1.heap[w.heap.size]? = some (.cells #[.bool p.b1, .slice p.a1 p.n1 p.c1, .bool p.b2, .slice p.a2 p.n2 p.c2] 34 (0, 0)) by rw [hw1]; exact heap_alloc_new _ _)
  obtain ⟨w2, hw2⟩ : ∃ w2, w2 = w1.alloc (.cells #[.bool p.b1, .slice p.a1 p.n1 p.c1, .bool p.b2, .slice p.a2 p.n2 p.c2] 34) := ⟨_, rfl⟩
  have hE2 : Ext w1 w2 := by rw [hw2]; exact (Ext.refl w1).al _
  have z2 : w2.heap[w1.heap.size]? = some (.cells #[.bool p.b1, .slice p.a1 p.n1 p.c1, .bool p.b2, .slice p.a2 p.n2 p.c2] 34 (0, 0)) := by rw [hw2]; exact heap_alloc_new _ _
  have KC := mkHid (checks_f w1.heap.size 1 [some x] w2 (by simp) (lf_one z2 (h.ext (hE.trans hE2))))
  have KS := mkHid (fun W (e : Ext w2 W) => sign_f (.agg #[.bool p.b1, .slice p.a1 p.n1 p.c1, .bool p.b2, .slice p.a2 p.n2 p.c2]) x W (Nat.le_trans h.frac.2 (by decide)) (h.ext ((hE.trans hE2).trans e)).frac.1)
  generalize x.num.sign = C at *
  have hE' := mkHid (hE.trans hE2)
  have zz := mkHid (fun W (e : Ext w2 W) => e.blk (hE2.blk z.out))
  replace hw1 := mkHid hw1
  replace hw2 := mkHid hw2
  clear h z2 hE hE2
  go_enter Tryz.func49, Tryz.ntmps49
  have tok : Tok 0 := .mk _
  go_wp2_with (first
    | ((have _t : Tok 0 := tok); clear _t; clear tok; (have tok : Tok 1 := .mk _); rw [← hw1.out]; refine wpList_load_row (by rfl) 34 (.tmp 1) rfl w.heap.size rfl 34 #[.bool p.b1, .slice p.a1 p.n1 p.c1, .bool p.b2, .slice p.a2 p.n2 p.c2] (0, 0) _ z.out Tryz.underlying34 rfl (by kernel_rfl) ?_)
    | ((have _t : Tok 1 := tok); clear _t; clear tok; (have tok : Tok 2 := .mk _); go_at_call 50; rw [← hw2.out]; refine KC.out.mono ?_; rintro e w3 ⟨rfl, hx⟩; (have z3 := mkHid (zz.out _ hx)); (have hx3 := mkHid hx); clear hx)
    | ((have _t : Tok 2 := tok); clear _t; clear tok; (have tok : Tok 3 := .mk _); refine wpList_load_row (by rfl) 34 (.tmp 1) rfl w.heap.size rfl 34 #[.bool p.b1, .slice p.a1 p.n1 p.c1, .bool p.b2, .slice p.a2 p.n2 p.c2] (0, 0) _ z3.out Tryz.underlying34 rfl (by kernel_rfl) ?_)
    | ((have _t : Tok 3 := tok); clear _t; clear tok; (have tok : Tok 4 := .mk _); go_at_call 66; refine (KS.out _ hx3.out).mono ?_; rintro e w4 ⟨rfl, hx⟩; (have hE4 := mkHid (hE'.out.trans (hx3.out.trans hx))); clear hx))
  go_ret
  exact ⟨rfl, hE4.out⟩
set_option maxHeartbeats 1600000 in
theorem fcmp_f (v v' : Value) (x y : Rat) (w : World) (h : AnyF w v (some x)) (h' : AnyF w v' (some y)) :
    Calls Tryz.prog 20 #[v, v'] w fun e w' => e = .returned (.int .i64 (cS x y)) ∧ Ext w w' := by
  obtain ⟨p, rfl⟩ := h.fv
  obtain ⟨q, rfl⟩ := h'.fv
  obtain ⟨w1, hw1⟩ : ∃ w1, w1 = (w.alloc (.cells #[.bool p.b1, .slice p.a1 p.n1 p.c1, .bool p.b2, .slice p.a2 p.n2 p.c2] 34)).alloc (.cells #[.bool q.b1, .slice q.a1 q.n1 q.c1, .bool q.b2, .slice q.a2 q.n2 q.c2] 34) := ⟨_, rfl⟩
  have hE : Ext w w1 := by rw [hw1]; exact ((Ext.refl w).al _).al _
  have zp := mkHid (show w1.heap[w.heap.size]? = some (.cells #[.bool p.b1, .slice p.a1 p.n1 p.c1, .bool p.b2, .slice p.a2 p.n2 p.c2] 34 (0, 0)) by rw [hw1]; exact (heap_alloc_old _ _ (by simp)).trans (heap_alloc_new _ _))
  have zq := mkHid (show w1.heap[w.heap.size + 1]? = some (.cells #[.bool q.b1, .slice q.a1 q.n1 q.c1, .bool q.b2, .slice q.a2 q.n2 q.c2] 34 (0, 0)) by rw [hw1]; exact heap_at _ _ _ (by simp))
  obtain ⟨w2, hw2⟩ : ∃ w2, w2 = w1.alloc (.cells #[.bool p.b1, .slice p.a1 p.n1 p.c1, .bool p.b2, .slice p.a2 p.n2 p.c2, .bool q.b1, .slice q.a1 q.n1 q.c1, .bool q.b2, .slice q.a2 q.n2 q.c2] 34) := ⟨_, rfl⟩
  have hE2 : Ext w1 w2 := by rw [hw2]; exact (Ext.refl w1).al _
  have z2 : w2.heap[w1.heap.size]? = some (.cells #[.bool p.b1, .slice p.a1 p.n1 p.c1, .bool p.b2, .slice p.a2 p.n2 p.c2, .bool q.b1, .slice q.a1 q.n1 q.c1, .bool q.b2, .slice q.a2 q.n2 q.c2] 34 (0, 0)) := by rw [hw2]; exact heap_alloc_new _ _
  have KC := mkHid (checks_f w1.heap.size 2 [some x, some y] w2 (by simp) (lf_two z2 (h.ext (hE.trans hE2)) (h'.ext (hE.trans hE2))))
  have KS := mkHid (fun W (e : Ext w2 W) => cmp_f (.agg #[.bool p.b1, .slice p.a1 p.n1 p.c1, .bool p.b2, .slice p.a2 p.n2 p.c2]) (.agg #[.bool q.b1, .slice q.a1 q.n1 q.c1, .bool q.b2, .slice q.a2 q.n2 q.c2]) x y W (Nat.le_trans h.frac.2 (by decide)) (Nat.le_trans h'.frac.2 (by decide)) (h.ext ((hE.trans hE2).trans e)).frac.1 (h'.ext ((hE.trans hE2).trans e)).frac.1)
  unfold cS
  generalize (x.num * y.den - y.num * x.den).sign = C at *
  have hE' := mkHid (hE.trans hE2)
  have zp2 := mkHid (fun W (e : Ext w2 W) => e.blk (hE2.blk zp.out))
  have zq2 := mkHid (fun W (e : Ext w2 W) => e.blk (hE2.blk zq.out))
  replace hw1 := mkHid hw1
  replace hw2 := mkHid hw2
  clear h h' z2 hE hE2
  go_enter Tryz.func20, Tryz.ntmps20
  have tok : Tok 0 := .mk _
  go_wp2_with (first
    | ((have _t : Tok 0 := tok); clear _t; clear tok; (have tok : Tok 1 := .mk _); rw [← hw1.out]; refine wpList_load_row (by rfl) 34 (.tmp 2) rfl w.heap.size rfl 34 #[.bool p.b1, .slice p.a1 p.n1 p.c1, .bool p.b2, .slice p.a2 p.n2 p.c2] (0, 0) _ zp.out Tryz.underlying34 rfl (by kernel_rfl) ?_)
    | ((have _t : Tok 1 := tok); clear _t; clear tok; (have tok : Tok 2 := .mk _); refine wpList_load_row (by rfl) 34 (.tmp 3) rfl (w.heap.size + 1) rfl 34 #[.bool q.b1, .slice q.a1 q.n1 q.c1, .bool q.b2, .slice q.a2 q.n2 q.c2] (0, 0) _ zq.out Tryz.underlying34 rfl (by kernel_rfl) ?_)
    | ((have _t : Tok 2 := tok); clear _t; clear tok; (have tok : Tok 3 := .mk _); go_at_call 50; rw [← hw2.out]; refine KC.out.mono ?_; rintro e w3 ⟨rfl, hx⟩; (have z3 := mkHid (zp2.out _ hx)); (have z4 := mkHid (zq2.out _ hx)); (have hx3 := mkHid hx); clear hx)
    | ((have _t : Tok 3 := tok); clear _t; clear tok; (have tok : Tok 4 := .mk _); refine wpList_load_row (by rfl) 34 (.tmp 2) rfl w.heap.size rfl 34 #[.bool p.b1, .slice p.a1 p.n1 p.c1, .bool p.b2, .slice p.a2 p.n2 p.c2] (0, 0) _ z3.out Tryz.underlying34 rfl (by kernel_rfl) ?_)
    | ((have _t : Tok 4 := tok); clear _t; clear tok; (have tok : Tok 5 := .mk _); refine wpList_load_row (by rfl) 34 (.tmp 3) rfl (w.heap.size + 1) rfl 34 #[.bool q.b1, .slice q.a1 q.n1 q.c1, .bool q.b2, .slice q.a2 q.n2 q.c2] (0, 0) _ z4.out Tryz.underlying34 rfl (by kernel_rfl) ?_)
    | ((have _t : Tok 5 := tok); clear _t; clear tok; (have tok : Tok 6 := .mk _); go_at_call 45; refine (KS.out _ hx3.out).mono ?_; rintro e w4 ⟨rfl, hx⟩; (have hE4 := mkHid (hE'.out.trans (hx3.out.trans hx))); clear hx))
  go_ret
  exact ⟨rfl, hE4.out⟩
theorem sub_swap (x y : Rat) : y - x = -(x - y) := by grind
theorem nf_swap (x y : Rat) : nf (y - x) = nf (x - y) := by
  rw [sub_swap x y]
  unfold nf
  rw [Rat.neg_num, Rat.neg_den]
  unfold nl
  rw [Int.natAbs_neg]
theorem rabs_pos {q : Rat} (h : ¬ q.num < 0) : rabs q = q := by unfold rabs; rw [if_neg h]
theorem rabs_neg {q : Rat} (h : q.num < 0) : rabs q = -q := by unfold rabs; rw [if_pos h]
/-- How far two fractions are from one another, where that can be told. -/
def FarP (T : Bool) (R : Rat) (w : World) (v : Value) : Prop := ∃ d : FV, v = .tuple #[.agg #[.bool d.b1, .slice d.a1 d.n1 d.c1, .bool d.b2, .slice d.a2 d.n2 d.c2], .bool T] ∧ (T = true → AnyF w (.agg #[.bool d.b1, .slice d.a1 d.n1 d.c1, .bool d.b2, .slice d.a2 d.n2 d.c2]) (some R))
def FarD (T : Bool) (R : Rat) (w : World) (v : Value) : Prop := ∃ d : FV, v = .agg #[.bool d.b1, .slice d.a1 d.n1 d.c1, .bool d.b2, .slice d.a2 d.n2 d.c2] ∧ (T = true → AnyF w (.agg #[.bool d.b1, .slice d.a1 d.n1 d.c1, .bool d.b2, .slice d.a2 d.n2 d.c2]) (some R))
theorem st_farP {ss : List FSpec} (T : Bool) (R : Rat) (h : StableAll Ext ss) : StableAll Ext (.pred (FarP T R) :: ss) := ⟨fun _ _ _ e ⟨d, h1, h2⟩ => ⟨d, h1, fun h => (h2 h).ext e⟩, h⟩
theorem st_farD {ss : List FSpec} (T : Bool) (R : Rat) (h : StableAll Ext ss) : StableAll Ext (.pred (FarD T R) :: ss) := ⟨fun _ _ _ e ⟨d, h1, h2⟩ => ⟨d, h1, fun h => (h2 h).ext e⟩, h⟩
def FarQ (x y : Rat) (w : World) (e : Ending) (w' : World) : Prop :=
  ∃ d : FV, e = .returned (.tuple #[.agg #[.bool d.b1, .slice d.a1 d.n1 d.c1, .bool d.b2, .slice d.a2 d.n2 d.c2], .bool (decide (nf (x - y) ≤ 2048))]) ∧ (nf (x - y) ≤ 2048 → AnyF w' (.agg #[.bool d.b1, .slice d.a1 d.n1 d.c1, .bool d.b2, .slice d.a2 d.n2 d.c2]) (some (rabs (x - y)))) ∧ Ext w w'
theorem far_end {d : FV} {b t : Bool} (h : t = b) : Ending.returned (.tuple #[.agg #[.bool d.b1, .slice d.a1 d.n1 d.c1, .bool d.b2, .slice d.a2 d.n2 d.c2], .bool b]) = .returned (.tuple #[.agg #[.bool d.b1, .slice d.a1 d.n1 d.c1, .bool d.b2, .slice d.a2 d.n2 d.c2], .bool t]) := by rw [h]
end Go.Proofs.YtkkfgphcmnhabaaGreatDoor
namespace Go.Proofs.YtkkfgphcmnhabaaGreatDoor
set_option maxRecDepth 100000
open Go Go.RowKit Go.Proofs
set_option maxHeartbeats 3200000 in
theorem far_c (v v' : Value) (x y : Rat) (w : World) (h : AnyF w v (some x)) (h' : AnyF w v' (some y)) :
    Calls Tryz.prog 19 #[v, v'] w (FarQ x y w) := by
  obtain ⟨p, rfl⟩ := h.fv
  obtain ⟨q, rfl⟩ := h'.fv
  obtain ⟨w1, hw1⟩ : ∃ w1, w1 = ((w.alloc (.cells #[.bool p.b1, .slice p.a1 p.n1 p.c1, .bool p.b2, .slice p.a2 p.n2 p.c2] 34)).alloc (.cells #[.bool q.b1, .slice q.a1 q.n1 q.c1, .bool q.b2, .slice q.a2 q.n2 q.c2] 34)).alloc (.cells #[.bool false, .slice none 0 0, .bool false, .slice none 0 0] 34) := ⟨_, rfl⟩
  have hE : Ext w w1 := by rw [hw1]; exact (((Ext.refl w).al _).al _).al _
  have zp := mkHid (show w1.heap[w.heap.size]? = some (.cells #[.bool p.b1, .slice p.a1 p.n1 p.c1, .bool p.b2, .slice p.a2 p.n2 p.c2] 34 (0, 0)) by rw [hw1]; exact (heap_alloc_old _ _ (by simp <;> omega)).trans ((heap_alloc_old _ _ (by simp)).trans (heap_alloc_new _ _)))
  have zq := mkHid (show w1.heap[w.heap.size + 1]? = some (.cells #[.bool q.b1, .slice q.a1 q.n1 q.c1, .bool q.b2, .slice q.a2 q.n2 q.c2] 34 (0, 0)) by rw [hw1]; exact (heap_alloc_old _ _ (by simp)).trans (heap_at _ _ _ (by simp)))
  have zr := mkHid (show w1.heap[w.heap.size + 2]? = some (.cells #[.bool false, .slice none 0 0, .bool false, .slice none 0 0] 34 (0, 0)) by rw [hw1]; exact heap_at _ _ _ (by simp))
  have KS := sub_o (.agg #[.bool p.b1, .slice p.a1 p.n1 p.c1, .bool p.b2, .slice p.a2 p.n2 p.c2]) (.agg #[.bool q.b1, .slice q.a1 q.n1 q.c1, .bool q.b2, .slice q.a2 q.n2 q.c2]) (some x) (some y) w1 (h.ext hE) (h'.ext hE)
  have KS2 := fun W (e : Ext w1 W) => sub_o (.agg #[.bool q.b1, .slice q.a1 q.n1 q.c1, .bool q.b2, .slice q.a2 q.n2 q.c2]) (.agg #[.bool p.b1, .slice p.a1 p.n1 p.c1, .bool p.b2, .slice p.a2 p.n2 p.c2]) (some y) (some x) W (h'.ext (hE.trans e)) (h.ext (hE.trans e))
  have hE' := mkHid hE
  have hlt := mkHid (show w.heap.size + 2 < w1.heap.size by rw [hw1]; simp)
  replace hw1 := mkHid hw1
  clear h h' hE
  simp only [opE, opO] at KS KS2
  by_cases hn : nf (x - y) ≤ 2048
  · have hn2 : nf (y - x) ≤ 2048 := by rw [nf_swap]; exact hn
    simp only [capE, capF, hn, hn2, if_true] at KS KS2
    have KSg := fun W v (h : AnyF W v (some (x - y))) => fsign_f v (x - y) W h
    replace KS := mkHid KS
    replace KS2 := mkHid KS2
    have hn' := mkHid hn
    clear hn hn2
    by_cases hneg : (x - y).num < 0
    · rw [Int.sign_eq_neg_one_of_neg hneg] at KSg
      have hra : rabs (x - y) = y - x := by rw [rabs_neg hneg]; exact (sub_swap x y).symm
      replace KSg := mkHid KSg
      replace hra := mkHid hra
      clear hneg
      go_enter Tryz.func19, Tryz.ntmps19
      have tok : Tok 0 := .mk _
      go_wp2_with (first
        | ((have _t : Tok 0 := tok); clear _t; clear tok; (have tok : Tok 1 := .mk _); rw [← hw1.out]; refine wpList_load_row (by rfl) 34 (.tmp 2) rfl (w.heap.size) rfl 34 #[.bool p.b1, .slice p.a1 p.n1 p.c1, .bool p.b2, .slice p.a2 p.n2 p.c2] (0, 0) _ zp.out Tryz.underlying34 rfl (by kernel_rfl) ?_)
        | ((have _t : Tok 1 := tok); clear _t; clear tok; (have tok : Tok 2 := .mk _); refine wpList_load_row (by rfl) 34 (.tmp 3) rfl (w.heap.size + 1) rfl 34 #[.bool q.b1, .slice q.a1 q.n1 q.c1, .bool q.b2, .slice q.a2 q.n2 q.c2] (0, 0) _ zq.out Tryz.underlying34 rfl (by kernel_rfl) ?_)
        | ((have _t : Tok 2 := tok); clear _t; clear tok; (have tok : Tok 3 := .mk _); go_at_call 48; refine KS.out.mono ?_; rintro e w2 ⟨vd, rfl, hx, hd⟩; (obtain ⟨d, rfl⟩ := hd.fv); (obtain ⟨w3, hw3⟩ : ∃ W, W = (w2.alloc (.cells #[.bool false, .slice none 0 0, .bool false, .slice none 0 0] 34)).setRow w2.heap.size #[.bool d.b1, .slice d.a1 d.n1 d.c1, .bool d.b2, .slice d.a2 d.n2 d.c2] := ⟨_, rfl⟩); (have zn := heap_alloc_new w2 (.cells #[.bool false, .slice none 0 0, .bool false, .slice none 0 0] 34)); (have z3 := mkHid (show w3.heap[w2.heap.size]? = some (.cells #[.bool d.b1, .slice d.a1 d.n1 d.c1, .bool d.b2, .slice d.a2 d.n2 d.c2] 34 (0, 0)) by rw [hw3]; exact setRow_heap _ _ _ _ _ _ zn)); (have hx3 : Ext w2 w3 := by rw [hw3]; exact ((Ext.refl w2).al _).row (Nat.le_refl _) _); (have hE3 := mkHid (hx.trans hx3)); (have hd3 := mkHid (hd.ext hx3)); (have hsz := mkHid hx.size); replace hw3 := mkHid hw3; replace zn := mkHid zn; clear hx hx3 hd)
        | ((have _t : Tok 3 := tok); clear _t; clear tok; (have tok : Tok 4 := .mk _); refine wpList_store_row rfl 34 (.tmp 6) (.tmp 12) rfl (w2.heap.size) #[.bool d.b1, .slice d.a1 d.n1 d.c1, .bool d.b2, .slice d.a2 d.n2 d.c2] rfl rfl 34 _ zn.out (by kernel_rfl) rfl (by kernel_rfl) ?_; rw [← hw3.out])
        | ((have _t : Tok 4 := tok); clear _t; clear tok; (have tok : Tok 5 := .mk _); refine wpList_load_row (by rfl) 34 (.tmp 6) rfl (w2.heap.size) rfl 34 #[.bool d.b1, .slice d.a1 d.n1 d.c1, .bool d.b2, .slice d.a2 d.n2 d.c2] (0, 0) _ z3.out Tryz.underlying34 rfl (by kernel_rfl) ?_)
        | ((have _t : Tok 5 := tok); clear _t; clear tok; (have tok : Tok 6 := .mk _); go_at_call 49; refine (KSg.out w3 _ hd3.out).mono ?_; rintro e w4 ⟨rfl, hx⟩; (have z4 := mkHid (hx.blk z3.out)); (have hE4 := mkHid (hE3.out.trans hx)); (have hd4 := mkHid (hd3.out.ext hx)); clear hx)
        | ((have _t : Tok 6 := tok); clear _t; clear tok; (have tok : Tok 7 := .mk _); (have zq4 := mkHid (hE4.out.blk zq.out)); refine wpList_load_row (by rfl) 34 (.tmp 3) rfl (w.heap.size + 1) rfl 34 #[.bool q.b1, .slice q.a1 q.n1 q.c1, .bool q.b2, .slice q.a2 q.n2 q.c2] (0, 0) _ zq4.out Tryz.underlying34 rfl (by kernel_rfl) ?_)
        | ((have _t : Tok 7 := tok); clear _t; clear tok; (have tok : Tok 8 := .mk _); (have zp4 := mkHid (hE4.out.blk zp.out)); refine wpList_load_row (by rfl) 34 (.tmp 2) rfl (w.heap.size) rfl 34 #[.bool p.b1, .slice p.a1 p.n1 p.c1, .bool p.b2, .slice p.a2 p.n2 p.c2] (0, 0) _ zp4.out Tryz.underlying34 rfl (by kernel_rfl) ?_)
        | ((have _t : Tok 8 := tok); clear _t; clear tok; (have tok : Tok 9 := .mk _); go_at_call 48; refine (KS2.out w4 hE4.out).mono ?_; rintro e w5 ⟨vd, rfl, hx, hd⟩; (obtain ⟨d2, rfl⟩ := hd.fv); (have z5 := mkHid (hx.blk z4.out)); (obtain ⟨w6, hw6⟩ : ∃ W, W = w5.setRow w2.heap.size #[.bool d2.b1, .slice d2.a1 d2.n1 d2.c1, .bool d2.b2, .slice d2.a2 d2.n2 d2.c2] := ⟨_, rfl⟩); (have z6 := mkHid (show w6.heap[w2.heap.size]? = some (.cells #[.bool d2.b1, .slice d2.a1 d2.n1 d2.c1, .bool d2.b2, .slice d2.a2 d2.n2 d2.c2] 34 (0, 0)) by rw [hw6]; exact setRow_heap _ _ _ _ _ _ z5.out)); (have hd6 := mkHid (show AnyF w6 (.agg #[.bool d2.b1, .slice d2.a1 d2.n1 d2.c1, .bool d2.b2, .slice d2.a2 d2.n2 d2.c2]) (some (y - x)) by rw [hw6]; exact hd.flat z5.out (by simp [flatV]) _)); (have hE6 := mkHid (show Ext w1 w6 by rw [hw6]; exact (hE4.out.trans hx).row hsz.out _)); replace hw6 := mkHid hw6; clear hx hd)
        | ((have _t : Tok 9 := tok); clear _t; clear tok; (have tok : Tok 10 := .mk _); refine wpList_store_row rfl 34 (.tmp 6) (.tmp 24) rfl (w2.heap.size) #[.bool d2.b1, .slice d2.a1 d2.n1 d2.c1, .bool d2.b2, .slice d2.a2 d2.n2 d2.c2] rfl rfl 34 _ z5.out (by kernel_rfl) rfl (by kernel_rfl) ?_; rw [← hw6.out])
        | ((have _t : Tok 10 := tok); clear _t; clear tok; (have tok : Tok 11 := .mk _); refine wpList_load_row (by rfl) 34 (.tmp 6) rfl (w2.heap.size) rfl 34 #[.bool d2.b1, .slice d2.a1 d2.n1 d2.c1, .bool d2.b2, .slice d2.a2 d2.n2 d2.c2] (0, 0) _ z6.out Tryz.underlying34 rfl (by kernel_rfl) ?_)
        | ((have _t : Tok 11 := tok); clear _t; clear tok; (have tok : Tok 12 := .mk _); (have zr6 := mkHid (hE6.out.blk zr.out)); refine wpList_store_row rfl 34 (.tmp 4) (.tmp 26) rfl (w.heap.size + 2) #[.bool d2.b1, .slice d2.a1 d2.n1 d2.c1, .bool d2.b2, .slice d2.a2 d2.n2 d2.c2] rfl rfl 34 _ zr6.out (by kernel_rfl) rfl (by kernel_rfl) ?_))
      refine bodyPost_ret (results_row_tmp rfl _ _ (w.heap.size + 2) 34 #[.bool d2.b1, .slice d2.a1 d2.n1 d2.c1, .bool d2.b2, .slice d2.a2 d2.n2 d2.c2] _ _ rfl rfl (setRow_heap _ _ _ _ _ _ zr6.out) Tryz.underlying34 rfl (by kernel_rfl)) rfl ?_
      refine ⟨d2, far_end (decide_eq_true hn'.out), fun _ => ?_, (hE'.out.trans hE6.out).row (by omega) _⟩
      rw [hra.out]
      exact hd6.out.flat zr6.out (by simp [flatV]) _
    · have hsg : ¬ (x - y).num.sign < 0 := by
        intro h
        rcases Int.lt_trichotomy (x - y).num 0 with h1 | h1 | h1
        · exact hneg h1
        · rw [h1] at h
          exact absurd h (by decide)
        · rw [Int.sign_eq_one_of_pos h1] at h
          exact absurd h (by decide)
      have hra : rabs (x - y) = x - y := rabs_pos hneg
      obtain ⟨S, hS⟩ : ∃ S, S = (x - y).num.sign := ⟨_, rfl⟩
      rw [← hS] at hsg KSg
      replace KSg := mkHid KSg
      replace hra := mkHid hra
      clear hneg hS KS2
      go_enter Tryz.func19, Tryz.ntmps19
      have tok : Tok 17 := .mk _
      go_wp2_with (first
        | ((have _t : Tok 17 := tok); clear _t; clear tok; (have tok : Tok 18 := .mk _); rw [← hw1.out]; refine wpList_load_row (by rfl) 34 (.tmp 2) rfl (w.heap.size) rfl 34 #[.bool p.b1, .slice p.a1 p.n1 p.c1, .bool p.b2, .slice p.a2 p.n2 p.c2] (0, 0) _ zp.out Tryz.underlying34 rfl (by kernel_rfl) ?_)
        | ((have _t : Tok 18 := tok); clear _t; clear tok; (have tok : Tok 19 := .mk _); refine wpList_load_row (by rfl) 34 (.tmp 3) rfl (w.heap.size + 1) rfl 34 #[.bool q.b1, .slice q.a1 q.n1 q.c1, .bool q.b2, .slice q.a2 q.n2 q.c2] (0, 0) _ zq.out Tryz.underlying34 rfl (by kernel_rfl) ?_)
        | ((have _t : Tok 19 := tok); clear _t; clear tok; (have tok : Tok 20 := .mk _); go_at_call 48; refine KS.out.mono ?_; rintro e w2 ⟨vd, rfl, hx, hd⟩; (obtain ⟨d, rfl⟩ := hd.fv); (obtain ⟨w3, hw3⟩ : ∃ W, W = (w2.alloc (.cells #[.bool false, .slice none 0 0, .bool false, .slice none 0 0] 34)).setRow w2.heap.size #[.bool d.b1, .slice d.a1 d.n1 d.c1, .bool d.b2, .slice d.a2 d.n2 d.c2] := ⟨_, rfl⟩); (have zn := heap_alloc_new w2 (.cells #[.bool false, .slice none 0 0, .bool false, .slice none 0 0] 34)); (have z3 := mkHid (show w3.heap[w2.heap.size]? = some (.cells #[.bool d.b1, .slice d.a1 d.n1 d.c1, .bool d.b2, .slice d.a2 d.n2 d.c2] 34 (0, 0)) by rw [hw3]; exact setRow_heap _ _ _ _ _ _ zn)); (have hx3 : Ext w2 w3 := by rw [hw3]; exact ((Ext.refl w2).al _).row (Nat.le_refl _) _); (have hE3 := mkHid (hx.trans hx3)); (have hd3 := mkHid (hd.ext hx3)); (have hsz := mkHid hx.size); replace hw3 := mkHid hw3; replace zn := mkHid zn; clear hx hx3 hd)
        | ((have _t : Tok 20 := tok); clear _t; clear tok; (have tok : Tok 21 := .mk _); refine wpList_store_row rfl 34 (.tmp 6) (.tmp 12) rfl (w2.heap.size) #[.bool d.b1, .slice d.a1 d.n1 d.c1, .bool d.b2, .slice d.a2 d.n2 d.c2] rfl rfl 34 _ zn.out (by kernel_rfl) rfl (by kernel_rfl) ?_; rw [← hw3.out])
        | ((have _t : Tok 21 := tok); clear _t; clear tok; (have tok : Tok 22 := .mk _); refine wpList_load_row (by rfl) 34 (.tmp 6) rfl (w2.heap.size) rfl 34 #[.bool d.b1, .slice d.a1 d.n1 d.c1, .bool d.b2, .slice d.a2 d.n2 d.c2] (0, 0) _ z3.out Tryz.underlying34 rfl (by kernel_rfl) ?_)
        | ((have _t : Tok 22 := tok); clear _t; clear tok; (have tok : Tok 23 := .mk _); go_at_call 49; refine (KSg.out w3 _ hd3.out).mono ?_; rintro e w4 ⟨rfl, hx⟩; (have z4 := mkHid (hx.blk z3.out)); (have hE4 := mkHid (hE3.out.trans hx)); (have hd4 := mkHid (hd3.out.ext hx)); clear hx)
        | ((have _t : Tok 23 := tok); clear _t; clear tok; (have tok : Tok 24 := .mk _); refine wpList_load_row (by rfl) 34 (.tmp 6) rfl (w2.heap.size) rfl 34 #[.bool d.b1, .slice d.a1 d.n1 d.c1, .bool d.b2, .slice d.a2 d.n2 d.c2] (0, 0) _ z4.out Tryz.underlying34 rfl (by kernel_rfl) ?_)
        | ((have _t : Tok 24 := tok); clear _t; clear tok; (have tok : Tok 25 := .mk _); (have zr6 := mkHid (hE4.out.blk zr.out)); refine wpList_store_row rfl 34 (.tmp 4) (.tmp 26) rfl (w.heap.size + 2) #[.bool d.b1, .slice d.a1 d.n1 d.c1, .bool d.b2, .slice d.a2 d.n2 d.c2] rfl rfl 34 _ zr6.out (by kernel_rfl) rfl (by kernel_rfl) ?_))
      refine bodyPost_ret (results_row_tmp rfl _ _ (w.heap.size + 2) 34 #[.bool d.b1, .slice d.a1 d.n1 d.c1, .bool d.b2, .slice d.a2 d.n2 d.c2] _ _ rfl rfl (setRow_heap _ _ _ _ _ _ zr6.out) Tryz.underlying34 rfl (by kernel_rfl)) rfl ?_
      refine ⟨d, far_end (decide_eq_true hn'.out), fun _ => ?_, (hE'.out.trans hE4.out).row (by omega) _⟩
      rw [hra.out]
      exact hd4.out.flat zr6.out (by simp [flatV]) _
  · simp only [capE, capF, hn, if_false] at KS
    replace KS := mkHid KS
    have hn' := mkHid hn
    clear hn KS2
    go_enter Tryz.func19, Tryz.ntmps19
    have tok : Tok 30 := .mk _
    go_wp2_with (first
      | ((have _t : Tok 30 := tok); clear _t; clear tok; (have tok : Tok 31 := .mk _); rw [← hw1.out]; refine wpList_load_row (by rfl) 34 (.tmp 2) rfl (w.heap.size) rfl 34 #[.bool p.b1, .slice p.a1 p.n1 p.c1, .bool p.b2, .slice p.a2 p.n2 p.c2] (0, 0) _ zp.out Tryz.underlying34 rfl (by kernel_rfl) ?_)
      | ((have _t : Tok 31 := tok); clear _t; clear tok; (have tok : Tok 32 := .mk _); refine wpList_load_row (by rfl) 34 (.tmp 3) rfl (w.heap.size + 1) rfl 34 #[.bool q.b1, .slice q.a1 q.n1 q.c1, .bool q.b2, .slice q.a2 q.n2 q.c2] (0, 0) _ zq.out Tryz.underlying34 rfl (by kernel_rfl) ?_)
      | ((have _t : Tok 32 := tok); clear _t; clear tok; (have tok : Tok 33 := .mk _); go_at_call 48; refine KS.out.mono ?_; rintro e w2 ⟨vd, rfl, hx, hd⟩; (obtain ⟨d, rfl⟩ := hd.fv); (obtain ⟨w3, hw3⟩ : ∃ W, W = (w2.alloc (.cells #[.bool false, .slice none 0 0, .bool false, .slice none 0 0] 34)).setRow w2.heap.size #[.bool d.b1, .slice d.a1 d.n1 d.c1, .bool d.b2, .slice d.a2 d.n2 d.c2] := ⟨_, rfl⟩); (have zn := heap_alloc_new w2 (.cells #[.bool false, .slice none 0 0, .bool false, .slice none 0 0] 34)); (have z3 := mkHid (show w3.heap[w2.heap.size]? = some (.cells #[.bool d.b1, .slice d.a1 d.n1 d.c1, .bool d.b2, .slice d.a2 d.n2 d.c2] 34 (0, 0)) by rw [hw3]; exact setRow_heap _ _ _ _ _ _ zn)); (have hx3 : Ext w2 w3 := by rw [hw3]; exact ((Ext.refl w2).al _).row (Nat.le_refl _) _); (have hE3 := mkHid (hx.trans hx3)); (have hd3 := mkHid (hd.ext hx3)); (have hsz := mkHid hx.size); replace hw3 := mkHid hw3; replace zn := mkHid zn; clear hx hx3 hd)
      | ((have _t : Tok 33 := tok); clear _t; clear tok; (have tok : Tok 34 := .mk _); refine wpList_store_row rfl 34 (.tmp 6) (.tmp 12) rfl (w2.heap.size) #[.bool d.b1, .slice d.a1 d.n1 d.c1, .bool d.b2, .slice d.a2 d.n2 d.c2] rfl rfl 34 _ zn.out (by kernel_rfl) rfl (by kernel_rfl) ?_; rw [← hw3.out])
      | ((have _t : Tok 34 := tok); clear _t; clear tok; (have tok : Tok 35 := .mk _); (have zr3 := mkHid (hE3.out.blk zr.out)); refine wpList_store_row rfl 34 (.tmp 4) (.tmp 16) rfl (w.heap.size + 2) #[.bool false, .slice none 0 0, .bool false, .slice none 0 0] rfl rfl 34 _ zr3.out (by kernel_rfl) rfl (by kernel_rfl) ?_))
    refine bodyPost_ret (results_row_tmp rfl _ _ (w.heap.size + 2) 34 #[.bool false, .slice none 0 0, .bool false, .slice none 0 0] _ _ rfl rfl (setRow_heap _ _ _ _ _ _ zr3.out) Tryz.underlying34 rfl (by kernel_rfl)) rfl ?_
    exact ⟨⟨false, none, 0, 0, false, none, 0, 0⟩, far_end (d := ⟨false, none, 0, 0, false, none, 0, 0⟩) (decide_eq_false hn'.out), fun h => absurd h hn'.out, (hE'.out.trans hE3.out).row (by omega) _⟩
end Go.Proofs.YtkkfgphcmnhabaaGreatDoor
namespace Go.Proofs.YtkkfgphcmnhabaaGreatDoor
set_option maxRecDepth 100000
open Go Go.RowKit Go.Proofs
/-- What Near answers, by its code. -/
def NearC (w' : World) (o : Option Rat) (l : List PD) (m : PD) (p q : FV) (c : Int) : Prop :=
  c = 1 ∧ o = none ∨ c = 11 ∧ l.filter lensB = [] ∨ c = 0 ∧ ∃ x, o = some x ∧ nearG x none l = some m ∧ PartR w' (.agg #[.string m.nm, .int .u8 m.kd, .bool p.b1, .slice p.a1 p.n1 p.c1, .bool p.b2, .slice p.a2 p.n2 p.c2, .bool q.b1, .slice q.a1 q.n1 q.c1, .bool q.b2, .slice q.a2 q.n2 q.c2, .int .i64 m.co]) m
theorem near_u (pw : FV) (o : Option Rat) (w : World) (g M : Nat) (es : List (PD × Value)) (h : Cat w g M es) (hp : AnyF w (.agg #[.bool pw.b1, .slice pw.a1 pw.n1 pw.c1, .bool pw.b2, .slice pw.a2 pw.n2 pw.c2]) o) :
    Calls Tryz.prog 17 #[.pointer (some ⟨g, 0, none⟩), .agg #[.bool pw.b1, .slice pw.a1 pw.n1 pw.c1, .bool pw.b2, .slice pw.a2 pw.n2 pw.c2]] w fun e w' => ∃ (m : PD) (p q : FV) (c : Int), e = .returned (.tuple #[.agg #[.string m.nm, .int .u8 m.kd, .bool p.b1, .slice p.a1 p.n1 p.c1, .bool p.b2, .slice p.a2 p.n2 p.c2, .bool q.b1, .slice q.a1 q.n1 q.c1, .bool q.b2, .slice q.a2 q.n2 q.c2, .int .i64 m.co], .int .i64 c]) ∧ Ext w w' ∧ NearC w' o (es.map (·.1)) m p q c := by
  cases o with
  | none =>
    refine (near_arg pw w g M es h hp).mono ?_
    rintro e w' ⟨rfl, hx⟩
    exact ⟨⟨⟨#[]⟩, 0, 0, 0, 0⟩, ⟨false, none, 0, 0, false, none, 0, 0⟩, ⟨false, none, 0, 0, false, none, 0, 0⟩, 1, rfl, hx, .inl ⟨rfl, rfl⟩⟩
  | some x =>
    by_cases hne : (es.map (·.1)).filter lensB = []
    · refine (near_none pw x w g M es h hp hne).mono ?_
      rintro e w' ⟨rfl, hx⟩
      exact ⟨⟨⟨#[]⟩, 0, 0, 0, 0⟩, ⟨false, none, 0, 0, false, none, 0, 0⟩, ⟨false, none, 0, 0, false, none, 0, 0⟩, 11, rfl, hx, .inr (.inl ⟨rfl, hne⟩)⟩
    · refine (near_ok pw x w g M es h hp hne).mono ?_
      rintro e w' ⟨v, d, rfl, hn, hk, hx⟩
      have hr := hk.r
      obtain ⟨p, q, rfl, -, -⟩ := hr.fv
      exact ⟨d, p, q, 0, rfl, hx, .inr (.inr ⟨rfl, x, rfl, hn, hr⟩)⟩
theorem far_p (v v' : Value) (x y : Rat) (T : Bool) (R : Rat) (w : World) (h : AnyF w v (some x)) (h' : AnyF w v' (some y)) (hT : decide (nf (x - y) ≤ 2048) = T) (hR : rabs (x - y) = R) :
    Calls Tryz.prog 19 #[v, v'] w fun e w' => ∃ d : FV, e = .returned (.tuple #[.agg #[.bool d.b1, .slice d.a1 d.n1 d.c1, .bool d.b2, .slice d.a2 d.n2 d.c2], .bool T]) ∧ Ext w w' ∧ (T = true → AnyF w' (.agg #[.bool d.b1, .slice d.a1 d.n1 d.c1, .bool d.b2, .slice d.a2 d.n2 d.c2]) (some R)) := by
  refine (far_c v v' x y w h h').mono ?_
  rintro e w' ⟨d, rfl, hd, hx⟩
  subst hT
  subst hR
  exact ⟨d, rfl, hx, fun h => hd (of_decide_eq_true h)⟩
/-- How many lenses stand among the first. -/
def cntL (l : List PD) (k : Nat) : Int := ((l.take k).filter lensB).length
theorem cntL_step {l : List PD} {k : Nat} (hk : k < l.length) : cntL l (k + 1) = cntL l k + (if lensB l[k] = true then 1 else 0) := by
  unfold cntL
  rw [List.take_succ_eq_append_getElem hk, List.filter_append, List.length_append]
  by_cases h : lensB l[k] = true
  · simp [h]
  · simp [h]
theorem cntL_b (l : List PD) (k : Nat) : 0 ≤ cntL l k ∧ cntL l k ≤ k := by
  unfold cntL
  have h1 := List.length_filter_le lensB (l.take k)
  have h2 := List.length_take_le k l
  omega
theorem cntL_none {l : List PD} (h : l.filter lensB = []) : cntL l l.length = 0 := by
  unfold cntL
  rw [List.take_length, h]
  rfl
/-- The loop that counts the lenses. -/
def CntR (w9 : World) (l : List PD) (t10 t11 : Value) (wr : World) : Prop :=
  ∃ (k : Nat) (z : Int), k ≤ l.length ∧ t11 = .int .i64 k ∧ t10 = .int .i64 z ∧ z = cntL l k ∧ Ext w9 wr
theorem near_facts {es : List (PD × Value)} {x : Rat} {m : PD} (hr : Rising es) (h : nearG x none (es.map (·.1)) = some m) :
    lensB m = true ∧ m ∈ es.map (·.1) ∧ ∀ d ∈ es.map (·.1), lensB d = true → worse x d m := by
  obtain ⟨h1, h2, h3, -⟩ := near_least x _ none m h (List.pairwise_map.2 hr) (fun b hb => by cases hb)
  exact ⟨h1, h2.elim id (fun h => by cases h), h3⟩
theorem RawF.fv {w : World} {v : Value} (h : RawF w v) : ∃ p : FV, v = .agg #[.bool p.b1, .slice p.a1 p.n1 p.c1, .bool p.b2, .slice p.a2 p.n2 p.c2] ∧ p.n1 ≤ 140737488355328 ∧ p.n2 ≤ 140737488355328 ∧ (p.n1 ≤ 4294967296 → p.n2 ≤ 4294967296 → ∃ o, AnyF w (.agg #[.bool p.b1, .slice p.a1 p.n1 p.c1, .bool p.b2, .slice p.a2 p.n2 p.c2]) o) := by
  obtain ⟨b1, a1, n1, c1, b2, a2, n2, c2, e, h1, h2, h3⟩ := h.opened
  exact ⟨⟨b1, a1, n1, c1, b2, a2, n2, c2⟩, e, h1, h2, h3⟩
set_option maxRecDepth 100000 in
set_option maxHeartbeats 6400000 in
/-- **CatalogNearest says so.** -/
theorem nearest_c (s v : Value) (vs : List Value) (w : World) (h : InL w s vs) (hm : Max0 w) (ht : Tab10 w) (hp : RawF w v) :
    Calls Tryz.prog 4 #[s, v] w fun e w' => e = .returned (.bool true) ∧ Ext w w' := by
  obtain ⟨a, c, rfl, hca⟩ := h.slice
  obtain ⟨pw, rfl, l1, l2, hop⟩ := hp.fv
  obtain ⟨w1, hw1⟩ : ∃ w1, w1 = w.alloc (.cells #[.bool pw.b1, .slice pw.a1 pw.n1 pw.c1, .bool pw.b2, .slice pw.a2 pw.n2 pw.c2] 34) := ⟨_, rfl⟩
  have hE : Ext w w1 := by rw [hw1]; exact (Ext.refl w).al _
  have zP := mkHid (show w1.heap[w.heap.size]? = some (.cells #[.bool pw.b1, .slice pw.a1 pw.n1 pw.c1, .bool pw.b2, .slice pw.a2 pw.n2 pw.c2] 34 (0, 0)) by rw [hw1]; exact heap_alloc_new _ _)
  have KA := mkHid (fun W (e : Ext w1 W) => alive25_c W (hm.ext (hE.trans e)) (tab_ext ht (hE.trans e)))
  have KF := mkHid (fun W (e : Ext w1 W) => fits_c _ vs W (h.ext (hE.trans e)))
  have hL := mkHid (fun W (e : Ext w1 W) => h.ext (hE.trans e))
  have KFc := fun W => fracCost_c pw.b1 pw.b2 pw.a1 pw.a2 pw.n1 pw.c1 pw.n2 pw.c2 W (by omega) (by omega)
  obtain ⟨s1, s2, s4, s5⟩ := costV_b pw.n1 pw.n2 l1 l2
  obtain ⟨S, hS⟩ : ∃ S : Int, S = costV pw.n1 pw.n2 := ⟨_, rfl⟩
  rw [← hS] at s1 s2 s4 s5
  simp only [← hS] at KFc
  replace KFc := mkHid KFc
  have s3 : S ≤ 4503599627370496 := by omega
  replace hop := mkHid (fun h : S ≤ 1048576 => hop (by omega) (by omega))
  have hE0 := mkHid hE
  replace hw1 := mkHid hw1
  clear h hm ht hp hE l1 l2 hS s2 s4 s5
  go_enter Tryz.func4, Tryz.ntmps4
  have tok : Tok 0 := .mk _
  go_wp2_with (first
    | ((have _t : Tok 0 := tok); clear _t; clear tok; (have tok : Tok 1 := .mk _); go_at_call 5; rw [← hw1.out]; refine (KA.out _ (Ext.refl _)).mono ?_; rintro e w2 ⟨rfl, hE2⟩; replace hE2 := mkHid hE2)
    | ((have _t : Tok 1 := tok); clear _t; clear tok; (have tok : Tok 2 := .mk _); go_at_call 6; refine (KF.out _ hE2.out).mono ?_; rintro e w3 ⟨r, rfl, hr, hx⟩; (have hE3 := mkHid (hE2.out.trans hx)); replace hr := mkHid hr; clear hx; refine stop11 ?_))
  cases r with
  | false =>
    unfold Stop11
    clear tok
    have tok : Tok 7 := .mk _
    go_wp2_with (first
      | ((have _t : Tok 7 := tok); clear _t; clear tok; (have tok : Tok 8 := .mk _); go_at_call 5; refine (KA.out _ hE3.out).mono ?_; rintro e w4 ⟨rfl, hx⟩; (have hE4 := mkHid (hE0.out.trans (hE3.out.trans hx))); clear hx))
    go_ret
    exact ⟨rfl, hE4.out⟩
  | true =>
    unfold Stop11
    clear tok
    obtain ⟨hvl, hsm⟩ := hr.out rfl
    replace hsm := mkHid hsm
    clear hr KF
    have tok : Tok 13 := .mk _
    go_wp2_with (first
      | ((have _t : Tok 13 := tok); clear _t; clear tok; (have tok : Tok 14 := .mk _); (have zP3 := mkHid (hE3.out.blk zP.out)); refine wpList_load_subG (by kernel_rfl) 34 (.tmp 3) rfl (w.heap.size) 0 rfl 34 #[.bool pw.b1, .slice pw.a1 pw.n1 pw.c1, .bool pw.b2, .slice pw.a2 pw.n2 pw.c2] #[.bool pw.b1, .slice pw.a1 pw.n1 pw.c1, .bool pw.b2, .slice pw.a2 pw.n2 pw.c2] (0, 0) _ zP3.out rfl Tryz.underlying34 rfl (by kernel_rfl) ?_)
      | ((have _t : Tok 14 := tok); clear _t; clear tok; (have tok : Tok 15 := .mk _); go_at_call 16; refine (KFc.out w3).mono ?_; rintro e w4 ⟨rfl, hx⟩; (have hE4 := mkHid (hE3.out.trans hx)); clear hx zP3)
      | ((have _t : Tok 15 := tok); clear _t; clear tok; (have tok : Tok 16 := .mk _); go_at_call 15; refine (beyond1_c w4.heap.size 1 S _ s1 s3 (by go_simp)).mono ?_; rintro e w5 ⟨v, rfl, hx, r2, rfl, hb⟩; replace hb := mkHid hb; (have hE5 := mkHid ((hE4.out.al _).trans hx)); clear hx; refine stop11 ?_))
    cases r2 with
    | true =>
      unfold Stop11
      clear tok
      have tok : Tok 21 := .mk _
      go_wp2_with (first
        | ((have _t : Tok 21 := tok); clear _t; clear tok; (have tok : Tok 22 := .mk _); go_at_call 5; refine (KA.out _ hE5.out).mono ?_; rintro e w6 ⟨rfl, hx⟩; (have hE6 := mkHid (hE0.out.trans (hE5.out.trans hx))); clear hx))
      go_ret
      exact ⟨rfl, hE6.out⟩
    | false =>
      unfold Stop11
      clear tok
      obtain ⟨o, hp⟩ := hop.out (hb.out rfl)
      have hP := mkHid (fun W (e : Ext w1 W) => hp.ext (hE0.out.trans e))
      clear hop hb hp
      obtain ⟨xs, hxs, hD⟩ := inD_of (hL.out w5 hE5.out) hsm.out
      have hxl : xs.length = vs.length := by rw [← hxs, List.length_map]
      have KFi := mkHid (filled_c _ xs w5 hD (by omega))
      clear hsm hD hxs hxl hvl hL KA s1 s3 KFc
      have tok : Tok 27 := .mk _
      go_wp2_with (first
        | ((have _t : Tok 27 := tok); clear _t; clear tok; (have tok : Tok 28 := .mk _); go_at_call 7; refine KFi.out.mono ?_; rintro e w6 ⟨g, M, es, ins, s4, rfl, hW, -⟩; (have hE6 := mkHid (hE5.out.trans hW.ext)); (have hC6 := mkHid hW.cat); (have KN := mkHid (near_u pw o w6 g M es hW.cat (hP.out w6 (hE5.out.trans hW.ext)))); (obtain ⟨a4, c4, rfl, -, -⟩ := row_of_owns11 hW.row); clear hW; (have zP6 := mkHid (hE6.out.blk zP.out)))
        | ((have _t : Tok 28 := tok); clear _t; clear tok; (have tok : Tok 29 := .mk _); refine wpList_load_row (by rfl) 34 (.tmp 3) rfl (w.heap.size) rfl 34 #[.bool pw.b1, .slice pw.a1 pw.n1 pw.c1, .bool pw.b2, .slice pw.a2 pw.n2 pw.c2] (0, 0) _ zP6.out Tryz.underlying34 rfl (by kernel_rfl) ?_)
        | ((have _t : Tok 29 := tok); clear _t; clear tok; (have tok : Tok 30 := .mk _); go_at_call 17; refine KN.out.mono ?_; rintro e w7 ⟨m, pm, qm, code, rfl, hx, hcd⟩; (obtain ⟨w8, hw8⟩ : ∃ W, W = (w7.alloc (.cells #[.string ⟨#[]⟩, .int .u8 0, .bool false, .slice none 0 0, .bool false, .slice none 0 0, .bool false, .slice none 0 0, .bool false, .slice none 0 0, .int .i64 0] 38)).setRow w7.heap.size #[.string m.nm, .int .u8 m.kd, .bool pm.b1, .slice pm.a1 pm.n1 pm.c1, .bool pm.b2, .slice pm.a2 pm.n2 pm.c2, .bool qm.b1, .slice qm.a1 qm.n1 qm.c1, .bool qm.b2, .slice qm.a2 qm.n2 qm.c2, .int .i64 m.co] := ⟨_, rfl⟩); (have zn := heap_alloc_new w7 (.cells #[.string ⟨#[]⟩, .int .u8 0, .bool false, .slice none 0 0, .bool false, .slice none 0 0, .bool false, .slice none 0 0, .bool false, .slice none 0 0, .int .i64 0] 38)); (have zw8 := mkHid (show w8.heap[w7.heap.size]? = some (.cells #[.string m.nm, .int .u8 m.kd, .bool pm.b1, .slice pm.a1 pm.n1 pm.c1, .bool pm.b2, .slice pm.a2 pm.n2 pm.c2, .bool qm.b1, .slice qm.a1 qm.n1 qm.c1, .bool qm.b2, .slice qm.a2 qm.n2 qm.c2, .int .i64 m.co] 38 (0, 0)) by rw [hw8]; exact setRow_heap _ _ _ _ _ _ zn)); (have xw8 := mkHid (show Ext w7 w8 by rw [hw8]; exact ((Ext.refl w7).al _).row (Nat.le_refl _) _)); replace hw8 := mkHid hw8; replace zn := mkHid zn; (have hE8 := mkHid (hE6.out.trans (hx.trans xw8.out))); (have hC8 := mkHid (hC6.out.ext (hx.trans xw8.out))); replace hcd := mkHid hcd; clear hx)
        | ((have _t : Tok 30 := tok); clear _t; clear tok; (have tok : Tok 31 := .mk _); refine wpList_store_row rfl 38 (.tmp 7) (.tmp 43) rfl w7.heap.size #[.string m.nm, .int .u8 m.kd, .bool pm.b1, .slice pm.a1 pm.n1 pm.c1, .bool pm.b2, .slice pm.a2 pm.n2 pm.c2, .bool qm.b1, .slice qm.a1 qm.n1 qm.c1, .bool qm.b2, .slice qm.a2 qm.n2 qm.c2, .int .i64 m.co] rfl rfl 38 _ zn.out (by kernel_rfl) rfl (by kernel_rfl) ?_; rw [← hw8.out])
        | ((have _t : Tok 31 := tok); clear _t; clear tok; (have tok : Tok 32 := .mk _); go_at_call 8; refine (all_l w8 g M es hC8.out).mono ?_; rintro e w9 ⟨v9, os, rfl, hO, hos, hx⟩; (have hA9 := mkHid hO.rowL); (obtain ⟨a9, c9, rfl, hc9, -⟩ := row_of_owns11 hO.row); (have hE9 := mkHid (hE8.out.trans hx)); (have hC9 := mkHid (hC8.out.ext hx)); (have hx9 := mkHid (xw8.out.trans hx)); (have zM9 := mkHid (hx.blk zw8.out)); (have hlo : os.length = es.length := by have h1 := congrArg List.length hos; simpa using h1); (have hos' := mkHid hos); (have hfew : (os.length : Int) ≤ 64 := by have := hC8.out.few; omega); clear hx hO hos hC8 hE8 hE6 hC6 KN KFi xw8 zw8))
      clear tok
      obtain ⟨L, hLe⟩ : ∃ L, L = es.map (·.1) := ⟨_, rfl⟩
      have hLl : L.length = os.length := by rw [hLe, List.length_map, hlo]
      have hLo : ∀ (k : Nat) (h : k < os.length) (h' : k < L.length), L[k] = os[k].1 := fun k h h' => by
        have h1 : es.map (·.1) = os.map (·.1) := hos'.out.symm
        subst hLe
        simp only [h1, List.getElem_map]
      have hmL := mkHid (show ∀ (k : Nat) (h : k < os.length), os[k].1 ∈ L from fun k h => by rw [← hLo k h (by omega)]; exact List.getElem_mem _)
      have hokL := mkHid (show ∀ d ∈ L, okPD d from fun d hd => by
        rw [hLe] at hd
        obtain ⟨y, hy, rfl⟩ := List.mem_map.1 hd
        exact hC9.out.ok y hy)
      have hst := mkHid (fun (k : Nat) (h : k < os.length) => show cntL L (k + 1) = cntL L k + (if lensB os[k].1 = true then 1 else 0) by rw [cntL_step (show k < L.length by omega), hLo k h (by omega)])
      have hcb := mkHid (cntL_b L)
      have hri := mkHid hC9.out.map.rising
      have hA := mkHid (fun W (e : Ext w9 W) => hA9.out.ext e)
      replace hLe := mkHid hLe
      replace hLo := mkHid hLo
      clear hA9
      have st : CntR w9 L (.int .i64 0) (.int .i64 0) w9 := ⟨0, 0, Nat.zero_le _, rfl, rfl, by simp [cntL], Ext.refl _⟩
      replace st := mkHid st
      go_loopw [10, 11] (fun t10 t11 wr => CntR w9 L t10 t11 wr) (fun _ t11 _ => os.length - (intOf t11).toNat)
      case atStart => exact st.out
      case round =>
        clear st
        obtain ⟨k, z, hk, rfl, rfl, hz, hEr⟩ := hrel
        obtain ⟨w10, rfl⟩ : ∃ w10 : World, w10 = wr := ⟨_, rfl⟩
        have hzb := hcb.out k
        rw [← hz] at hzb
        obtain ⟨hzb1, hzb2⟩ := hzb
        by_cases hlt : k < os.length
        · have hlt' : (k : Int) < (os.length : Int) := by omega
          obtain ⟨b, ob, c1, x1, -, p, q, -, hr, -⟩ := (hA.out w10 hEr).get hlt
          simp only [Value.slice.injEq, true_and] at x1
          obtain ⟨rfl, rfl⟩ := x1
          have hs1 := hst.out k hlt
          have ck : w10.cell? ⟨b, ob + k * 11 + 1, none⟩ = some (.int .u8 os[k].1.kd) := hr 1 _ rfl
          generalize os[k].1 = d at *
          rw [← hz] at hs1
          by_cases hl : lensB d = true
          · rw [if_pos hl] at hs1
            have hk2 : (d.kd == 2) = true := hl
            have hE10 := mkHid hEr
            replace hs1 := mkHid hs1
            clear hr hEr hl
            go_wp2_with fail
            refine ⟨⟨k + 1, z + 1, by omega, by go_num, by go_num, hs1.out.symm, hE10.out⟩, by simp [intOf]; omega⟩
          · rw [if_neg hl] at hs1
            have hk2 : (d.kd == 2) = false := by simpa [lensB] using hl
            have hE10 := mkHid hEr
            replace hs1 := mkHid hs1
            clear hr hEr hl
            go_wp2_with fail
            refine ⟨⟨k + 1, z, by omega, by go_num, rfl, by rw [hs1.out]; omega, hE10.out⟩, by simp [intOf]; omega⟩
        · have hke : k = os.length := by omega
          subst hke
          clear hlt hst hcb
          have hE10 := mkHid hEr
          have hE10' := mkHid (hE9.out.trans hEr)
          have hC10 := mkHid (hC9.out.ext hEr)
          have zP10 := mkHid (hE10'.out.blk zP.out)
          have zM10 := mkHid (hEr.blk zM9.out)
          clear hEr hC9 zM9
          rcases hcd.out with ⟨rfl, ho⟩ | ⟨rfl, hfl⟩ | ⟨rfl, x, ho, hnr, hpm⟩
          · have KCk := mkHid (show Calls Tryz.prog 18 #[.agg #[.bool pw.b1, .slice pw.a1 pw.n1 pw.c1, .bool pw.b2, .slice pw.a2 pw.n2 pw.c2]] w10 (fun e w' => e = .returned (.int .i64 1) ∧ Ext w10 w') from fcheck_f _ none w10 (by have := hP.out w10 hE10'.out; rwa [ho] at this))
            clear hA hri ho
            have tok : Tok 37 := .mk _
            go_wp2_with (first
              | ((have _t : Tok 37 := tok); clear _t; clear tok; (have tok : Tok 38 := .mk _); refine wpList_load_subG (by kernel_rfl) 34 (.tmp 3) rfl (w.heap.size) 0 rfl 34 #[.bool pw.b1, .slice pw.a1 pw.n1 pw.c1, .bool pw.b2, .slice pw.a2 pw.n2 pw.c2] #[.bool pw.b1, .slice pw.a1 pw.n1 pw.c1, .bool pw.b2, .slice pw.a2 pw.n2 pw.c2] (0, 0) _ zP10.out rfl Tryz.underlying34 rfl (by kernel_rfl) ?_)
              | ((have _t : Tok 38 := tok); clear _t; clear tok; (have tok : Tok 39 := .mk _); go_at_call 18; refine KCk.out.mono ?_; rintro e w11 ⟨rfl, hx⟩; (have hE11 := mkHid (hE0.out.trans (hE10'.out.trans hx))); clear hx))
            go_ret
            exact ⟨rfl, hE11.out⟩
          · have hz0 : z = 0 := by rw [hz, ← hLl]; refine cntL_none ?_; rw [hLe.out]; exact hfl
            subst hz0
            have hE11 := mkHid (hE0.out.trans hE10'.out)
            clear hA hri hz hfl
            go_wp2_with fail
            go_ret
            exact ⟨rfl, hE11.out⟩
          · subst ho
            obtain ⟨hml, hmem, hwo⟩ := near_facts hri.out hnr
            have hokm := hC10.out.ok
            obtain ⟨vm, hfm, hmm⟩ := find_at hri.out (List.Perm.refl _) hmem
            have hokm : okPD m := hC10.out.ok _ hmm
            have KG := mkHid (get_ok m.nm w10 g M es hC10.out (okPD_nm hokm) (m, vm) hfm)
            have hx7 := hx9.out.trans hE10.out
            obtain ⟨T, hT⟩ : ∃ T, T = decide (nf (m.p - x) ≤ 2048) := ⟨_, rfl⟩
            have HM := mkHid (fun W (e : Ext w10 W) => hpm.ext (hx7.trans e))
            have HX := mkHid (fun W (e : Ext w10 W) => hP.out W (hE10'.out.trans e))
            have hmp : nf m.p ≤ 2048 := hokm.1
            have hmq : nf m.q ≤ 2048 := hokm.2.1
            have hkd : m.kd = 2 := by simpa [lensB] using hml
            have KFr := mkHid (fun W (e : Ext w10 W) => far_p (.agg #[.bool pm.b1, .slice pm.a1 pm.n1 pm.c1, .bool pm.b2, .slice pm.a2 pm.n2 pm.c2]) (.agg #[.bool pw.b1, .slice pw.a1 pw.n1 pw.c1, .bool pw.b2, .slice pw.a2 pw.n2 pw.c2]) m.p x T (offP x m) W (by have := ((hpm.ext (hx7.trans e)).pq.1).any (Nat.le_trans hmp (by decide)); rwa [if_pos hmp] at this) (hP.out W (hE10'.out.trans e)) hT.symm rfl)
            have KS := mkHid (fun W (e : Ext w10 W) u (hu : PartR W u m) => samePart_same u (.agg #[.string m.nm, .int .u8 m.kd, .bool pm.b1, .slice pm.a1 pm.n1 pm.c1, .bool pm.b2, .slice pm.a2 pm.n2 pm.c2, .bool qm.b1, .slice qm.a1 qm.n1 qm.c1, .bool qm.b2, .slice qm.a2 qm.n2 qm.c2, .int .i64 m.co]) m W hu (hpm.ext (hx7.trans e)) hmp hmq)
            have c0 : w10.cell? ⟨w7.heap.size, 0, none⟩ = some (.string m.nm) := row16_cells zM10.out 0
            have hwo' := mkHid (fun (k : Nat) (h : k < os.length) (hl : lensB os[k].1 = true) => show worse x os[k].1 m from hwo _ (by rw [← hLe.out]; exact hmL.out k h) hl)
            replace hkd := mkHid hkd
            clear hmem hwo hml hfm hmm hokm hnr hpm hx7 hmp hmq hT hz hcd hri hC10
            have tok : Tok 44 := .mk _
            go_wp2_with (first
              | ((have _t : Tok 44 := tok); clear _t; clear tok; (have tok : Tok 45 := .mk _); go_at_call 9; refine KG.out.mono ?_; rintro e w11 ⟨v6, rfl, hk6, hx⟩; (obtain ⟨p6, q6, rfl, -, -⟩ := hk6.r.fv); (obtain ⟨w12, hw12⟩ : ∃ W, W = (w11.alloc (.cells #[.string ⟨#[]⟩, .int .u8 0, .bool false, .slice none 0 0, .bool false, .slice none 0 0, .bool false, .slice none 0 0, .bool false, .slice none 0 0, .int .i64 0] 38)).setRow w11.heap.size #[.string m.nm, .int .u8 m.kd, .bool p6.b1, .slice p6.a1 p6.n1 p6.c1, .bool p6.b2, .slice p6.a2 p6.n2 p6.c2, .bool q6.b1, .slice q6.a1 q6.n1 q6.c1, .bool q6.b2, .slice q6.a2 q6.n2 q6.c2, .int .i64 m.co] := ⟨_, rfl⟩); (have zn := heap_alloc_new w11 (.cells #[.string ⟨#[]⟩, .int .u8 0, .bool false, .slice none 0 0, .bool false, .slice none 0 0, .bool false, .slice none 0 0, .bool false, .slice none 0 0, .int .i64 0] 38)); (have zw12 := mkHid (show w12.heap[w11.heap.size]? = some (.cells #[.string m.nm, .int .u8 m.kd, .bool p6.b1, .slice p6.a1 p6.n1 p6.c1, .bool p6.b2, .slice p6.a2 p6.n2 p6.c2, .bool q6.b1, .slice q6.a1 q6.n1 q6.c1, .bool q6.b2, .slice q6.a2 q6.n2 q6.c2, .int .i64 m.co] 38 (0, 0)) by rw [hw12]; exact setRow_heap _ _ _ _ _ _ zn)); (have xw12 := mkHid (show Ext w11 w12 by rw [hw12]; exact ((Ext.refl w11).al _).row (Nat.le_refl _) _)); replace hw12 := mkHid hw12; replace zn := mkHid zn; (have hk12 := mkHid (hk6.r.ext xw12.out)); (have hE12 := mkHid (hx.trans xw12.out)); (have zM12 := mkHid (hE12.out.blk zM10.out)); (have zP12 := mkHid (hE12.out.blk zP10.out)); clear c0 hx hk6)
              | ((have _t : Tok 45 := tok); clear _t; clear tok; (have tok : Tok 46 := .mk _); refine wpList_store_row rfl 38 (.tmp 12) (.tmp 84) rfl w11.heap.size #[.string m.nm, .int .u8 m.kd, .bool p6.b1, .slice p6.a1 p6.n1 p6.c1, .bool p6.b2, .slice p6.a2 p6.n2 p6.c2, .bool q6.b1, .slice q6.a1 q6.n1 q6.c1, .bool q6.b2, .slice q6.a2 q6.n2 q6.c2, .int .i64 m.co] rfl rfl 38 _ zn.out (by kernel_rfl) rfl (by kernel_rfl) ?_; rw [← hw12.out])
              | ((have _t : Tok 46 := tok); clear _t; clear tok; (have tok : Tok 47 := .mk _); refine wpList_load_subG (by rfl) 34 (.tmp 88) rfl (w7.heap.size) 2 rfl 38 #[.string m.nm, .int .u8 m.kd, .bool pm.b1, .slice pm.a1 pm.n1 pm.c1, .bool pm.b2, .slice pm.a2 pm.n2 pm.c2, .bool qm.b1, .slice qm.a1 qm.n1 qm.c1, .bool qm.b2, .slice qm.a2 qm.n2 qm.c2, .int .i64 m.co] #[.bool pm.b1, .slice pm.a1 pm.n1 pm.c1, .bool pm.b2, .slice pm.a2 pm.n2 pm.c2] (0, 0) _ zM12.out rfl Tryz.underlying34 rfl (by kernel_rfl) ?_)
              | ((have _t : Tok 47 := tok); clear _t; clear tok; (have tok : Tok 48 := .mk _); refine wpList_load_row (by rfl) 34 (.tmp 3) rfl (w.heap.size) rfl 34 #[.bool pw.b1, .slice pw.a1 pw.n1 pw.c1, .bool pw.b2, .slice pw.a2 pw.n2 pw.c2] (0, 0) _ zP12.out Tryz.underlying34 rfl (by kernel_rfl) ?_)
              | ((have _t : Tok 48 := tok); clear _t; clear tok; (have tok : Tok 49 := .mk _); go_at_call 19; refine (KFr.out w12 hE12.out).mono ?_; rintro e w13 ⟨d13, rfl, hx, hd13⟩; (obtain ⟨w14, hw14⟩ : ∃ W, W = (w13.alloc (.cells #[.bool false, .slice none 0 0, .bool false, .slice none 0 0] 34)).setRow w13.heap.size #[.bool d13.b1, .slice d13.a1 d13.n1 d13.c1, .bool d13.b2, .slice d13.a2 d13.n2 d13.c2] := ⟨_, rfl⟩); (have zn := heap_alloc_new w13 (.cells #[.bool false, .slice none 0 0, .bool false, .slice none 0 0] 34)); (have zw14 := mkHid (show w14.heap[w13.heap.size]? = some (.cells #[.bool d13.b1, .slice d13.a1 d13.n1 d13.c1, .bool d13.b2, .slice d13.a2 d13.n2 d13.c2] 34 (0, 0)) by rw [hw14]; exact setRow_heap _ _ _ _ _ _ zn)); (have xw14 := mkHid (show Ext w13 w14 by rw [hw14]; exact ((Ext.refl w13).al _).row (Nat.le_refl _) _)); replace hw14 := mkHid hw14; replace zn := mkHid zn; (have hd14 := mkHid (fun h => (hd13 h).ext xw14.out)); (have hE14 := mkHid (hE12.out.trans (hx.trans xw14.out))); (have hk14 := mkHid (hk12.out.ext (hx.trans xw14.out))); (have zM14 := mkHid ((hx.trans xw14.out).blk zM12.out)); (have zG14 := mkHid ((hx.trans xw14.out).blk zw12.out)); clear hx hd13)
              | ((have _t : Tok 49 := tok); clear _t; clear tok; (have tok : Tok 50 := .mk _); refine wpList_store_row rfl 34 (.tmp 14) (.tmp 92) rfl w13.heap.size #[.bool d13.b1, .slice d13.a1 d13.n1 d13.c1, .bool d13.b2, .slice d13.a2 d13.n2 d13.c2] rfl rfl 34 _ zn.out (by kernel_rfl) rfl (by kernel_rfl) ?_; rw [← hw14.out])
              | ((have _t : Tok 50 := tok); clear _t; clear tok; (have tok : Tok 51 := .mk _); refine wpList_load_subG (by kernel_rfl) 38 (.tmp 12) rfl (w11.heap.size) 0 rfl 38 #[.string m.nm, .int .u8 m.kd, .bool p6.b1, .slice p6.a1 p6.n1 p6.c1, .bool p6.b2, .slice p6.a2 p6.n2 p6.c2, .bool q6.b1, .slice q6.a1 q6.n1 q6.c1, .bool q6.b2, .slice q6.a2 q6.n2 q6.c2, .int .i64 m.co] #[.string m.nm, .int .u8 m.kd, .bool p6.b1, .slice p6.a1 p6.n1 p6.c1, .bool p6.b2, .slice p6.a2 p6.n2 p6.c2, .bool q6.b1, .slice q6.a1 q6.n1 q6.c1, .bool q6.b2, .slice q6.a2 q6.n2 q6.c2, .int .i64 m.co] (0, 0) _ zG14.out rfl Tryz.underlying38 rfl (by kernel_rfl) ?_)
              | ((have _t : Tok 51 := tok); clear _t; clear tok; (have tok : Tok 52 := .mk _); refine wpList_load_subG (by kernel_rfl) 38 (.tmp 7) rfl (w7.heap.size) 0 rfl 38 #[.string m.nm, .int .u8 m.kd, .bool pm.b1, .slice pm.a1 pm.n1 pm.c1, .bool pm.b2, .slice pm.a2 pm.n2 pm.c2, .bool qm.b1, .slice qm.a1 qm.n1 qm.c1, .bool qm.b2, .slice qm.a2 qm.n2 qm.c2, .int .i64 m.co] #[.string m.nm, .int .u8 m.kd, .bool pm.b1, .slice pm.a1 pm.n1 pm.c1, .bool pm.b2, .slice pm.a2 pm.n2 pm.c2, .bool qm.b1, .slice qm.a1 qm.n1 qm.c1, .bool qm.b2, .slice qm.a2 qm.n2 qm.c2, .int .i64 m.co] (0, 0) _ zM14.out rfl Tryz.underlying38 rfl (by kernel_rfl) ?_)
              | ((have _t : Tok 52 := tok); clear _t; clear tok; (have tok : Tok 53 := .mk _); go_at_call 10; refine (KS.out w14 hE14.out _ hk14.out).mono ?_; rintro e w15 ⟨rfl, hx⟩; (have hE15 := mkHid (hE14.out.trans hx)); (have zB15 := mkHid (hx.blk zw14.out)); (have zM15 := mkHid (hx.blk zM14.out)); (have hd15 := mkHid (fun h => (hd14.out h).ext hx)); (have ckm : w15.cell? ⟨w7.heap.size, 1, none⟩ = some (.int .u8 2) := by rw [← hkd.out]; exact row16_cells zM15.out 1); clear hx))
            clear tok KG KS KFr hk12 hk14 zM12 zM14 zG14 zM10 zP12 hd14 hE12 hE14 hkd zn hw8 hw12 hw14 xw12 xw14 zw12 zw14 ckm
            obtain ⟨gB, hgB⟩ : ∃ gB, gB = w13.heap.size := ⟨_, rfl⟩
            rw [← hgB] at zB15 ⊢
            have hA15 := mkHid (fun W (e : Ext w15 W) => hA.out W ((hE10.out.trans hE15.out).trans e))
            have HX15 := mkHid (fun W (e : Ext w15 W) => HX.out W (hE15.out.trans e))
            have zP15 := mkHid (hE15.out.blk zP10.out)
            have hE15' := mkHid (hE0.out.trans (hE10'.out.trans hE15.out))
            clear hgB hA HX HM zP10 hE10 hE10' hE15
            have st : ∃ k : Nat, k ≤ os.length ∧ Value.int .i64 0 = .int .i64 k ∧ Ext w15 w15 := ⟨0, Nat.zero_le _, rfl, Ext.refl _⟩
            replace st := mkHid st
            go_loopw [16] (fun t16 wr => ∃ k : Nat, k ≤ os.length ∧ t16 = .int .i64 k ∧ Ext w15 wr) (fun t16 _ => os.length - (intOf t16).toNat)
            case atStart => exact st.out
            case round =>
              clear st
              obtain ⟨k, hk, rfl, hEr⟩ := hrel
              obtain ⟨w16, rfl⟩ : ∃ w16 : World, w16 = wr := ⟨_, rfl⟩
              by_cases hlt : k < os.length
              · have hlt' : (k : Int) < (os.length : Int) := by omega
                cases T with
                | false =>
                  have hE17 := mkHid (hE15'.out.trans hEr)
                  clear hEr
                  go_wp2_with fail
                  go_ret
                  exact ⟨rfl, hE17.out⟩
                | true =>
                  obtain ⟨b, ob, c1, x1, -, p, q, -, hr, hpr⟩ := (hA15.out w16 hEr).get hlt
                  simp only [Value.slice.injEq, true_and] at x1
                  obtain ⟨rfl, rfl⟩ := x1
                  have hwk := hwo'.out k hlt
                  have hokd := hokL.out _ (hmL.out k hlt)
                  generalize os[k].1 = d at *
                  have hdp : nf d.p ≤ 2048 := hokd.1
                  obtain ⟨T2, hT2⟩ : ∃ T2, T2 = decide (nf (d.p - x) ≤ 2048) := ⟨_, rfl⟩
                  have KF2 := mkHid (fun W (e : Ext w16 W) => far_p (.agg #[.bool p.b1, .slice p.a1 p.n1 p.c1, .bool p.b2, .slice p.a2 p.n2 p.c2]) (.agg #[.bool pw.b1, .slice pw.a1 pw.n1 pw.c1, .bool pw.b2, .slice pw.a2 pw.n2 pw.c2]) d.p x T2 (offP x d) W (by have := ((hpr.ext e).pq.1).any (Nat.le_trans hdp (by decide)); rwa [if_pos hdp] at this) (HX15.out W (hEr.trans e)) hT2.symm rfl)
                  have HR := mkHid (fun W (e : Ext w16 W) => show W.rangeAt b (ob + k * 11 + 2) [.bool p.b1, .slice p.a1 p.n1 p.c1, .bool p.b2, .slice p.a2 p.n2 p.c2] from rangeAt_sub (rangeAt_ext hr e) 2 4)
                  have HP := mkHid (fun W (e : Ext w16 W) => (hEr.trans e).blk zP15.out)
                  have HK := mkHid (fun W (e : Ext w16 W) => show W.cell? ⟨b, ob + k * 11 + 1, none⟩ = some (.int .u8 d.kd) from e.cell (hr 1 _ rfl))
                  have HN : ∀ W, Ext w16 W → W.cell? ⟨b, ob + k * 11, none⟩ = some (.string d.nm) := fun W e => e.cell (hr 0 _ rfl)
                  have HC : ∀ W, Ext w16 W → W.cell? ⟨b, ob + k * 11 + 10, none⟩ = some (.int .i64 d.co) := fun W e => e.cell (hr 10 _ rfl)
                  have HMN : ∀ W, Ext w16 W → W.cell? ⟨w7.heap.size, 0, none⟩ = some (.string m.nm) := fun W e => row16_cells ((hEr.trans e).blk zM15.out) 0
                  have HMC : ∀ W, Ext w16 W → W.cell? ⟨w7.heap.size, 10, none⟩ = some (.int .i64 m.co) := fun W e => row16_cells ((hEr.trans e).blk zM15.out) 10
                  replace HN := mkHid HN
                  replace HC := mkHid HC
                  replace HMN := mkHid HMN
                  replace HMC := mkHid HMC
                  replace hwk := mkHid hwk
                  have hE16 := mkHid hEr
                  clear hr hpr hokd hdp hT2 hEr
                  go_wp2_with fail
                  apply Late.region_late Ext [.val (.slice (some ⟨b, ob, none⟩) os.length c9), .val (.int .i64 k), .val (.pointer (some ⟨b, ob + k * 11, none⟩)), .val (.pointer (some ⟨b, ob + k * 11 + 1, none⟩)), .val (.pointer (some ⟨b, ob + k * 11 + 2, none⟩)), .val (.agg #[.bool p.b1, .slice p.a1 p.n1 p.c1, .bool p.b2, .slice p.a2 p.n2 p.c2]), .val (.agg #[.bool pw.b1, .slice pw.a1 pw.n1 pw.c1, .bool pw.b2, .slice pw.a2 pw.n2 pw.c2]), .pred (FarP T2 (offP x d)), .pred (FarP T2 (offP x d)), .pred (FarD T2 (offP x d)), .val (.bool T2), .pred (VarAt w16.heap.size #[.bool false, .slice none 0 0, .bool false, .slice none 0 0] 34)] 10 _ 127 (.bool T2) mixed (by kernel_rfl) rfl rfl rfl (by kernel_rfl) (by kernel_rfl) (fun _ _ _ h => h)
                    (fun a W _ hf => by
                      have h3 : FarP T2 (offP x d) W (a.tmps.getD 117 undef) := hf 8 _ _ _ rfl rfl rfl (by kernel_rfl)
                      obtain ⟨y, hy, -⟩ := h3
                      refine .inl ⟨rfl, fun w => ?_⟩
                      simp only [execOp, Act.eval, hy]
                      rfl)
                    Ext.refl (fun _ _ _ => Ext.trans) (fun w => (Ext.refl w).dr) (stableAll_mem (stable_vals _ (stable_vals _ (stable_vals _ (stable_vals _ (stable_vals _ (stable_vals _ (stable_vals _ (st_farP _ _ (st_farP _ _ (st_farD _ _ (stable_vals _ (st_var _ _ _ trivial)))))))))))))
                  iterate 5 (refine ⟨fun W hW _ => by go_simp; first | exact ⟨Ext.refl _, rfl⟩ | exact Ext.refl _, ?_⟩)
                  refine ⟨?l123, ?_⟩
                  case l123 =>
                    intro W hW hF
                    have hr := HR.out W hW
                    with_reducible refine fr_load_mid ?zhw 34 (.tmp 122) ?zho b (ob + k * 11 + 2) ?zhx [.bool p.b1, .slice p.a1 p.n1 p.c1, .bool p.b2, .slice p.a2 p.n2 p.c2] _ hr Tryz.underlying34 ?zhd ?zhi ?zh
                    case zhw => kernel_rfl
                    case zho => rfl
                    case zhx => kernel_rfl
                    case zhd => rfl
                    case zhi => kernel_rfl
                    case zh => exact ⟨Ext.refl _, rfl⟩
                  refine ⟨?l124, ?_⟩
                  case l124 =>
                    intro W hW hF
                    have hr := HP.out W hW
                    with_reducible refine fr_load ?zhw 34 (.tmp 3) ?zho w.heap.size ?zhx 34 #[.bool pw.b1, .slice pw.a1 pw.n1 pw.c1, .bool pw.b2, .slice pw.a2 pw.n2 pw.c2] (0, 0) _ hr Tryz.underlying34 ?zhd ?zhi ?zh
                    case zhw => kernel_rfl
                    case zho => rfl
                    case zhx => kernel_rfl
                    case zhd => rfl
                    case zhi => kernel_rfl
                    case zh => exact ⟨Ext.refl _, rfl⟩
                  refine ⟨fun W hW _ => ?c125, fun v125 => ⟨fun W hW hF => ?m117, fun v117 => ⟨fun W hW hF => ?e126, fun v126 => ⟨fun W hW hF => ?e127, ⟨fun W hW _ => ?al, fun v17 => fun W hW hF => ?fin⟩⟩⟩⟩⟩
                  case c125 =>
                    go_simp
                    refine (KF2.out W hW).mono ?_
                    rintro e w' ⟨d2, rfl, h1, h2⟩
                    exact ⟨_, rfl, h1, d2, rfl, h2⟩
                  case m117 =>
                    have dd : FarP T2 (offP x d) W v125 := hF.1 (by kernel_rfl)
                    replace dd := mkHid dd
                    clear hF
                    go_simp
                    exact ⟨Ext.refl _, dd.out⟩
                  case e126 =>
                    have dd : FarP T2 (offP x d) W v117 := hF.1 (by kernel_rfl)
                    clear hF
                    with_reducible refine Shut.open' ?_
                    obtain ⟨d2, rfl, dd⟩ := dd
                    with_reducible refine Shut.mk ?_
                    replace dd := mkHid dd
                    go_simp
                    exact ⟨Ext.refl _, d2, rfl, dd.out⟩
                  case e127 =>
                    have dd : FarP T2 (offP x d) W v117 := hF.2.1 (by kernel_rfl)
                    clear hF
                    with_reducible refine Shut.open' ?_
                    obtain ⟨d2, rfl, dd⟩ := dd
                    with_reducible refine Shut.mk ?_
                    clear dd
                    go_simp
                    first | exact ⟨Ext.refl _, rfl⟩ | exact Ext.refl _
                  case al =>
                    have hnv := new_var (b := w16.heap.size) (cs := #[.bool false, .slice none 0 0, .bool false, .slice none 0 0]) (T := 34) W hW.size
                    replace hnv := mkHid hnv
                    go_simp
                    exact ⟨hnv.out.1, hnv.out.2.1⟩
                  case fin =>
                    obtain ⟨f17, f126, -⟩ := hF
                    with_reducible refine Shut.open' ?_
                    obtain ⟨gd, rfl, hgb, hgd⟩ := f17 rfl
                    have hD : FarD T2 (offP x d) W v126 := f126 rfl
                    obtain ⟨d2, rfl, hd2⟩ := hD
                    with_reducible refine Shut.mk ?_
                    clear f17 f126
                    obtain ⟨w17, hw17⟩ : ∃ w17, w17 = W.setRow gd #[.bool d2.b1, .slice d2.a1 d2.n1 d2.c1, .bool d2.b2, .slice d2.a2 d2.n2 d2.c2] := ⟨_, rfl⟩
                    have hW17 : Ext w16 w17 := by rw [hw17]; exact hW.row hgb _
                    have hd17 := mkHid (fun h => show AnyF w17 (.agg #[.bool d2.b1, .slice d2.a1 d2.n1 d2.c1, .bool d2.b2, .slice d2.a2 d2.n2 d2.c2]) (some (offP x d)) by rw [hw17]; exact (hd2 h).flat hgd (by simp [flatV]) _)
                    have zD := mkHid (show w17.heap[gd]? = some (.cells #[.bool d2.b1, .slice d2.a1 d2.n1 d2.c1, .bool d2.b2, .slice d2.a2 d2.n2 d2.c2] 34 (0, 0)) by rw [hw17]; exact setRow_heap _ _ _ _ _ _ hgd)
                    have ck : w17.cell? ⟨b, ob + k * 11 + 1, none⟩ = some (.int .u8 d.kd) := HK.out w17 hW17
                    have zB17 := mkHid ((hE16.out.trans hW17).blk zB15.out)
                    have KC := fun (h : T2 = true) => fcmp_f (.agg #[.bool d2.b1, .slice d2.a1 d2.n1 d2.c1, .bool d2.b2, .slice d2.a2 d2.n2 d2.c2]) (.agg #[.bool d13.b1, .slice d13.a1 d13.n1 d13.c1, .bool d13.b2, .slice d13.a2 d13.n2 d13.c2]) (offP x d) (offP x m) w17 (hd17.out h) ((hd15.out (by trivial)).ext (hE16.out.trans hW17))
                    replace hgd := mkHid hgd
                    replace hw17 := mkHid hw17
                    replace hW17 := mkHid hW17
                    clear hd2 hW KF2 HR HP HK hgb hd17
                    go_simp
                    by_cases hl : lensB d = true
                    · have hk2 : (d.kd == 2) = true := hl
                      have hk3 : (d.kd != 2) = false := by simp [bne, hk2]
                      cases T2 with
                      | false =>
                        clear KC
                        have tok : Tok 58 := .mk _
                        go_wp2_with (first
                          | ((have _t : Tok 58 := tok); clear _t; clear tok; (have tok : Tok 59 := .mk _); refine wpList_store_row rfl 34 (.tmp 17) (.tmp 126) rfl gd #[.bool d2.b1, .slice d2.a1 d2.n1 d2.c1, .bool d2.b2, .slice d2.a2 d2.n2 d2.c2] rfl rfl 34 _ hgd.out (by kernel_rfl) rfl (by kernel_rfl) ?_; rw [← hw17.out]))
                        refine ⟨⟨k + 1, by omega, by go_num, (hE16.out.trans hW17.out)⟩, by simp [intOf]; omega⟩
                      | true =>
                        obtain ⟨hz1, hz2⟩ := worse_test (hwk.out hl)
                        have KC := KC rfl
                        generalize cS (offP x d) (offP x m) = Z at *
                        replace KC := mkHid KC
                        clear hl hwk
                        have tok : Tok 64 := .mk _
                        go_wp2_with (first
                          | ((have _t : Tok 64 := tok); clear _t; clear tok; (have tok : Tok 65 := .mk _); refine wpList_store_row rfl 34 (.tmp 17) (.tmp 126) rfl gd #[.bool d2.b1, .slice d2.a1 d2.n1 d2.c1, .bool d2.b2, .slice d2.a2 d2.n2 d2.c2] rfl rfl 34 _ hgd.out (by kernel_rfl) rfl (by kernel_rfl) ?_; rw [← hw17.out])
                          | ((have _t : Tok 65 := tok); clear _t; clear tok; (have tok : Tok 66 := .mk _); refine wpList_load_row (by rfl) 34 (.tmp 17) rfl (gd) rfl 34 #[.bool d2.b1, .slice d2.a1 d2.n1 d2.c1, .bool d2.b2, .slice d2.a2 d2.n2 d2.c2] (0, 0) _ zD.out Tryz.underlying34 rfl (by kernel_rfl) ?_)
                          | ((have _t : Tok 66 := tok); clear _t; clear tok; (have tok : Tok 67 := .mk _); refine wpList_load_row (by rfl) 34 (.tmp 14) rfl (gB) rfl 34 #[.bool d13.b1, .slice d13.a1 d13.n1 d13.c1, .bool d13.b2, .slice d13.a2 d13.n2 d13.c2] (0, 0) _ zB17.out Tryz.underlying34 rfl (by kernel_rfl) ?_)
                          | ((have _t : Tok 67 := tok); clear _t; clear tok; (have tok : Tok 68 := .mk _); go_at_call 20; refine KC.out.mono ?_; rintro e w18 ⟨rfl, hx⟩; (have hW18 := mkHid (hW17.out.trans hx)); clear hx ck))
                        clear tok KC zD zB17 hgd hw17 hW17
                        have HN' : ∀ W, Ext w18 W → W.cell? ⟨b, ob + k * 11, none⟩ = some (.string d.nm) := fun W e => HN.out W (hW18.out.trans e)
                        have HC' : ∀ W, Ext w18 W → W.cell? ⟨b, ob + k * 11 + 10, none⟩ = some (.int .i64 d.co) := fun W e => HC.out W (hW18.out.trans e)
                        have HMN' : ∀ W, Ext w18 W → W.cell? ⟨w7.heap.size, 0, none⟩ = some (.string m.nm) := fun W e => HMN.out W (hW18.out.trans e)
                        have HMC' : ∀ W, Ext w18 W → W.cell? ⟨w7.heap.size, 10, none⟩ = some (.int .i64 m.co) := fun W e => HMC.out W (hW18.out.trans e)
                        clear HN HC HMN HMC
                        by_cases hz0 : Z = 0
                        · subst hz0
                          obtain ⟨hco, hnm⟩ := hz2 rfl
                          clear hz1 hz2
                          by_cases he : d.co = m.co
                          · have he' : (d.co == m.co) = true := by simpa using he
                            have hnm' : Op.bytesLess d.nm.toList m.nm.toList = false := by
                              rw [ByteArray.toList_eq, ByteArray.toList_eq, less_bef10]
                              exact hnm he
                            clear hnm he
                            apply region_ext [.val (.int .i64 0), .val (.bool false), .val (.bool false), .val (.int .i64 0), .val (.bool true), .val (.bool true), .val (.slice (some ⟨b, ob, none⟩) os.length c9), .val (.int .i64 k), .val (.pointer (some ⟨b, ob + k * 11, none⟩)), .val (.pointer (some ⟨b, ob + k * 11 + 10, none⟩)), .val (.int .i64 d.co), .val (.pointer (some ⟨w7.heap.size, 10, none⟩)), .val (.int .i64 m.co), .val (.bool false), .val (.bool false), .val (.slice (some ⟨b, ob, none⟩) os.length c9), .val (.int .i64 k), .val (.pointer (some ⟨b, ob + k * 11, none⟩)), .val (.pointer (some ⟨b, ob + k * 11 + 10, none⟩)), .val (.int .i64 d.co), .val (.pointer (some ⟨w7.heap.size, 10, none⟩)), .val (.int .i64 m.co), .val (.bool true), .val (.bool true), .val (.slice (some ⟨b, ob, none⟩) os.length c9), .val (.int .i64 k), .val (.pointer (some ⟨b, ob + k * 11, none⟩)), .val (.pointer (some ⟨b, ob + k * 11, none⟩)), .val (.string d.nm), .val (.pointer (some ⟨w7.heap.size, 0, none⟩)), .val (.string m.nm), .val (.bool false), .val (.bool false), .val (.bool false), .val (.bool false), .val (.bool false)]
                            case hok => kernel_rfl
                            case hst =>
                              iterate 36 (refine stable_vals _ ?_)
                              trivial
                            refine ⟨fun W hW _ => by go_simp; first | exact ⟨Ext.refl _, rfl⟩ | exact Ext.refl _, ?_⟩
                            refine ⟨fun W hW _ => by go_simp; first | exact ⟨Ext.refl _, rfl⟩ | exact Ext.refl _, ?_⟩
                            refine ⟨fun W hW _ => by go_simp; first | exact ⟨Ext.refl _, rfl⟩ | exact Ext.refl _, ?_⟩
                            refine ⟨fun W hW _ => by go_simp; first | exact ⟨Ext.refl _, rfl⟩ | exact Ext.refl _, ?_⟩
                            refine ⟨fun W hW _ => by go_simp; first | exact ⟨Ext.refl _, rfl⟩ | exact Ext.refl _, ?_⟩
                            refine ⟨fun W hW _ => by go_simp; first | exact ⟨Ext.refl _, rfl⟩ | exact Ext.refl _, ?_⟩
                            refine ⟨fun W hW _ => by go_simp; first | exact ⟨Ext.refl _, rfl⟩ | exact Ext.refl _, ?_⟩
                            refine ⟨fun W hW _ => by go_simp; first | exact ⟨Ext.refl _, rfl⟩ | exact Ext.refl _, ?_⟩
                            refine ⟨fun W hW _ => by go_simp; first | exact ⟨Ext.refl _, rfl⟩ | exact Ext.refl _, ?_⟩
                            refine ⟨fun W hW _ => by go_simp; first | exact ⟨Ext.refl _, rfl⟩ | exact Ext.refl _, ?_⟩
                            refine ⟨fun W hW _ => by have := HC' W hW; go_simp; first | exact ⟨Ext.refl _, rfl⟩ | exact Ext.refl _, ?_⟩
                            refine ⟨fun W hW _ => by go_simp; first | exact ⟨Ext.refl _, rfl⟩ | exact Ext.refl _, ?_⟩
                            refine ⟨fun W hW _ => by have := HMC' W hW; go_simp; first | exact ⟨Ext.refl _, rfl⟩ | exact Ext.refl _, ?_⟩
                            refine ⟨fun W hW _ => by go_simp; first | exact ⟨Ext.refl _, rfl⟩ | exact Ext.refl _, ?_⟩
                            refine ⟨fun W hW _ => by go_simp; first | exact ⟨Ext.refl _, rfl⟩ | exact Ext.refl _, ?_⟩
                            refine ⟨fun W hW _ => by go_simp; first | exact ⟨Ext.refl _, rfl⟩ | exact Ext.refl _, ?_⟩
                            refine ⟨fun W hW _ => by go_simp; first | exact ⟨Ext.refl _, rfl⟩ | exact Ext.refl _, ?_⟩
                            refine ⟨fun W hW _ => by go_simp; first | exact ⟨Ext.refl _, rfl⟩ | exact Ext.refl _, ?_⟩
                            refine ⟨fun W hW _ => by go_simp; first | exact ⟨Ext.refl _, rfl⟩ | exact Ext.refl _, ?_⟩
                            refine ⟨fun W hW _ => by have := HC' W hW; go_simp; first | exact ⟨Ext.refl _, rfl⟩ | exact Ext.refl _, ?_⟩
                            refine ⟨fun W hW _ => by go_simp; first | exact ⟨Ext.refl _, rfl⟩ | exact Ext.refl _, ?_⟩
                            refine ⟨fun W hW _ => by have := HMC' W hW; go_simp; first | exact ⟨Ext.refl _, rfl⟩ | exact Ext.refl _, ?_⟩
                            refine ⟨fun W hW _ => by go_simp; first | exact ⟨Ext.refl _, rfl⟩ | exact Ext.refl _, ?_⟩
                            refine ⟨fun W hW _ => by go_simp; first | exact ⟨Ext.refl _, rfl⟩ | exact Ext.refl _, ?_⟩
                            refine ⟨fun W hW _ => by go_simp; first | exact ⟨Ext.refl _, rfl⟩ | exact Ext.refl _, ?_⟩
                            refine ⟨fun W hW _ => by go_simp; first | exact ⟨Ext.refl _, rfl⟩ | exact Ext.refl _, ?_⟩
                            refine ⟨fun W hW _ => by go_simp; first | exact ⟨Ext.refl _, rfl⟩ | exact Ext.refl _, ?_⟩
                            refine ⟨fun W hW _ => by go_simp; first | exact ⟨Ext.refl _, rfl⟩ | exact Ext.refl _, ?_⟩
                            refine ⟨fun W hW _ => by have := HN' W hW; go_simp; first | exact ⟨Ext.refl _, rfl⟩ | exact Ext.refl _, ?_⟩
                            refine ⟨fun W hW _ => by go_simp; first | exact ⟨Ext.refl _, rfl⟩ | exact Ext.refl _, ?_⟩
                            refine ⟨fun W hW _ => by have := HMN' W hW; go_simp; first | exact ⟨Ext.refl _, rfl⟩ | exact Ext.refl _, ?_⟩
                            refine ⟨fun W hW _ => by go_simp; first | exact ⟨Ext.refl _, rfl⟩ | exact Ext.refl _, ?_⟩
                            refine ⟨fun W hW _ => by go_simp; first | exact ⟨Ext.refl _, rfl⟩ | exact Ext.refl _, ?_⟩
                            refine ⟨fun W hW _ => by go_simp; first | exact ⟨Ext.refl _, rfl⟩ | exact Ext.refl _, ?_⟩
                            refine ⟨fun W hW _ => by go_simp; first | exact ⟨Ext.refl _, rfl⟩ | exact Ext.refl _, ?_⟩
                            refine ⟨fun W hW _ => by go_simp; first | exact ⟨Ext.refl _, rfl⟩ | exact Ext.refl _, ?_⟩
                            intro W hW _
                            have hE18 := mkHid (hE16.out.trans (hW18.out.trans hW))
                            clear HC' HN' HMC' HMN' hW
                            go_simp
                            go_wp2_with fail
                            refine ⟨⟨k + 1, by omega, by go_num, hE18.out⟩, by simp [intOf]; omega⟩
                          · have he' : (d.co == m.co) = false := by simpa using he
                            clear hnm he
                            apply region_ext [.val (.int .i64 0), .val (.bool false), .val (.bool false), .val (.int .i64 0), .val (.bool true), .val (.bool true), .val (.slice (some ⟨b, ob, none⟩) os.length c9), .val (.int .i64 k), .val (.pointer (some ⟨b, ob + k * 11, none⟩)), .val (.pointer (some ⟨b, ob + k * 11 + 10, none⟩)), .val (.int .i64 d.co), .val (.pointer (some ⟨w7.heap.size, 10, none⟩)), .val (.int .i64 m.co), .val (.bool false), .val (.bool false), .val (.slice (some ⟨b, ob, none⟩) os.length c9), .val (.int .i64 k), .val (.pointer (some ⟨b, ob + k * 11, none⟩)), .val (.pointer (some ⟨b, ob + k * 11 + 10, none⟩)), .val (.int .i64 d.co), .val (.pointer (some ⟨w7.heap.size, 10, none⟩)), .val (.int .i64 m.co), .val (.bool false), .val (.bool false), .val undef, .val undef, .val undef, .val undef, .val undef, .val undef, .val undef, .val undef, .val (.bool false), .val (.bool false), .val (.bool false), .val (.bool false)]
                            case hok => kernel_rfl
                            case hst =>
                              iterate 36 (refine stable_vals _ ?_)
                              trivial
                            refine ⟨fun W hW _ => by go_simp; first | exact ⟨Ext.refl _, rfl⟩ | exact Ext.refl _, ?_⟩
                            refine ⟨fun W hW _ => by go_simp; first | exact ⟨Ext.refl _, rfl⟩ | exact Ext.refl _, ?_⟩
                            refine ⟨fun W hW _ => by go_simp; first | exact ⟨Ext.refl _, rfl⟩ | exact Ext.refl _, ?_⟩
                            refine ⟨fun W hW _ => by go_simp; first | exact ⟨Ext.refl _, rfl⟩ | exact Ext.refl _, ?_⟩
                            refine ⟨fun W hW _ => by go_simp; first | exact ⟨Ext.refl _, rfl⟩ | exact Ext.refl _, ?_⟩
                            refine ⟨fun W hW _ => by go_simp; first | exact ⟨Ext.refl _, rfl⟩ | exact Ext.refl _, ?_⟩
                            refine ⟨fun W hW _ => by go_simp; first | exact ⟨Ext.refl _, rfl⟩ | exact Ext.refl _, ?_⟩
                            refine ⟨fun W hW _ => by go_simp; first | exact ⟨Ext.refl _, rfl⟩ | exact Ext.refl _, ?_⟩
                            refine ⟨fun W hW _ => by go_simp; first | exact ⟨Ext.refl _, rfl⟩ | exact Ext.refl _, ?_⟩
                            refine ⟨fun W hW _ => by go_simp; first | exact ⟨Ext.refl _, rfl⟩ | exact Ext.refl _, ?_⟩
                            refine ⟨fun W hW _ => by have := HC' W hW; go_simp; first | exact ⟨Ext.refl _, rfl⟩ | exact Ext.refl _, ?_⟩
                            refine ⟨fun W hW _ => by go_simp; first | exact ⟨Ext.refl _, rfl⟩ | exact Ext.refl _, ?_⟩
                            refine ⟨fun W hW _ => by have := HMC' W hW; go_simp; first | exact ⟨Ext.refl _, rfl⟩ | exact Ext.refl _, ?_⟩
                            refine ⟨fun W hW _ => by go_simp; first | exact ⟨Ext.refl _, rfl⟩ | exact Ext.refl _, ?_⟩
                            refine ⟨fun W hW _ => by go_simp; first | exact ⟨Ext.refl _, rfl⟩ | exact Ext.refl _, ?_⟩
                            refine ⟨fun W hW _ => by go_simp; first | exact ⟨Ext.refl _, rfl⟩ | exact Ext.refl _, ?_⟩
                            refine ⟨fun W hW _ => by go_simp; first | exact ⟨Ext.refl _, rfl⟩ | exact Ext.refl _, ?_⟩
                            refine ⟨fun W hW _ => by go_simp; first | exact ⟨Ext.refl _, rfl⟩ | exact Ext.refl _, ?_⟩
                            refine ⟨fun W hW _ => by go_simp; first | exact ⟨Ext.refl _, rfl⟩ | exact Ext.refl _, ?_⟩
                            refine ⟨fun W hW _ => by have := HC' W hW; go_simp; first | exact ⟨Ext.refl _, rfl⟩ | exact Ext.refl _, ?_⟩
                            refine ⟨fun W hW _ => by go_simp; first | exact ⟨Ext.refl _, rfl⟩ | exact Ext.refl _, ?_⟩
                            refine ⟨fun W hW _ => by have := HMC' W hW; go_simp; first | exact ⟨Ext.refl _, rfl⟩ | exact Ext.refl _, ?_⟩
                            refine ⟨fun W hW _ => by go_simp; first | exact ⟨Ext.refl _, rfl⟩ | exact Ext.refl _, ?_⟩
                            refine ⟨fun W hW _ => by go_simp; first | exact ⟨Ext.refl _, rfl⟩ | exact Ext.refl _, ?_⟩
                            refine ⟨fun W hW _ => by go_simp <;> (intro hh; have hh' : (none : Option Bool) = some _ := hh; cases hh'), ?_⟩
                            refine ⟨fun W hW _ => by go_simp <;> (intro hh; have hh' : (none : Option Bool) = some _ := hh; cases hh'), ?_⟩
                            refine ⟨fun W hW _ => by go_simp <;> (intro hh; have hh' : (none : Option Bool) = some _ := hh; cases hh'), ?_⟩
                            refine ⟨fun W hW _ => by go_simp <;> (intro hh; have hh' : (none : Option Bool) = some _ := hh; cases hh'), ?_⟩
                            refine ⟨fun W hW _ => by go_simp <;> (intro hh; have hh' : (none : Option Bool) = some _ := hh; cases hh'), ?_⟩
                            refine ⟨fun W hW _ => by go_simp <;> (intro hh; have hh' : (none : Option Bool) = some _ := hh; cases hh'), ?_⟩
                            refine ⟨fun W hW _ => by go_simp <;> (intro hh; have hh' : (none : Option Bool) = some _ := hh; cases hh'), ?_⟩
                            refine ⟨fun W hW _ => by go_simp <;> (intro hh; have hh' : (none : Option Bool) = some _ := hh; cases hh'), ?_⟩
                            refine ⟨fun W hW _ => by go_simp; first | exact ⟨Ext.refl _, rfl⟩ | exact Ext.refl _, ?_⟩
                            refine ⟨fun W hW _ => by go_simp; first | exact ⟨Ext.refl _, rfl⟩ | exact Ext.refl _, ?_⟩
                            refine ⟨fun W hW _ => by go_simp; first | exact ⟨Ext.refl _, rfl⟩ | exact Ext.refl _, ?_⟩
                            refine ⟨fun W hW _ => by go_simp; first | exact ⟨Ext.refl _, rfl⟩ | exact Ext.refl _, ?_⟩
                            intro W hW _
                            have hE18 := mkHid (hE16.out.trans (hW18.out.trans hW))
                            clear HC' HN' HMC' HMN' hW
                            go_simp
                            go_wp2_with fail
                            refine ⟨⟨k + 1, by omega, by go_num, hE18.out⟩, by simp [intOf]; omega⟩
                        · have hz' : (Z == 0) = false := by simpa using hz0
                          clear hz2 hz0
                          apply region_ext [.val (.int .i64 Z), .val (.bool false), .val (.bool false), .val (.int .i64 Z), .val (.bool false), .val (.bool false), .val undef, .val undef, .val undef, .val undef, .val undef, .val undef, .val undef, .val undef, .val undef, .val undef, .val undef, .val undef, .val undef, .val undef, .val undef, .val undef, .val undef, .val undef, .val undef, .val undef, .val undef, .val undef, .val undef, .val undef, .val undef, .val undef, .val undef, .val undef, .val (.bool false), .val (.bool false)]
                          case hok => kernel_rfl
                          case hst =>
                            iterate 36 (refine stable_vals _ ?_)
                            trivial
                          refine ⟨fun W hW _ => by go_simp; first | exact ⟨Ext.refl _, rfl⟩ | exact Ext.refl _, ?_⟩
                          refine ⟨fun W hW _ => by go_simp; first | exact ⟨Ext.refl _, rfl⟩ | exact Ext.refl _, ?_⟩
                          refine ⟨fun W hW _ => by go_simp; first | exact ⟨Ext.refl _, rfl⟩ | exact Ext.refl _, ?_⟩
                          refine ⟨fun W hW _ => by go_simp; first | exact ⟨Ext.refl _, rfl⟩ | exact Ext.refl _, ?_⟩
                          refine ⟨fun W hW _ => by go_simp; first | exact ⟨Ext.refl _, rfl⟩ | exact Ext.refl _, ?_⟩
                          refine ⟨fun W hW _ => by go_simp; first | exact ⟨Ext.refl _, rfl⟩ | exact Ext.refl _, ?_⟩
                          refine ⟨fun W hW _ => by go_simp <;> (intro hh; have hh' : (none : Option Bool) = some _ := hh; cases hh'), ?_⟩
                          refine ⟨fun W hW _ => by go_simp <;> (intro hh; have hh' : (none : Option Bool) = some _ := hh; cases hh'), ?_⟩
                          refine ⟨fun W hW _ => by go_simp <;> (intro hh; have hh' : (none : Option Bool) = some _ := hh; cases hh'), ?_⟩
                          refine ⟨fun W hW _ => by go_simp <;> (intro hh; have hh' : (none : Option Bool) = some _ := hh; cases hh'), ?_⟩
                          refine ⟨fun W hW _ => by go_simp <;> (intro hh; have hh' : (none : Option Bool) = some _ := hh; cases hh'), ?_⟩
                          refine ⟨fun W hW _ => by go_simp <;> (intro hh; have hh' : (none : Option Bool) = some _ := hh; cases hh'), ?_⟩
                          refine ⟨fun W hW _ => by go_simp <;> (intro hh; have hh' : (none : Option Bool) = some _ := hh; cases hh'), ?_⟩
                          refine ⟨fun W hW _ => by go_simp <;> (intro hh; have hh' : (none : Option Bool) = some _ := hh; cases hh'), ?_⟩
                          refine ⟨fun W hW _ => by go_simp <;> (intro hh; have hh' : (none : Option Bool) = some _ := hh; cases hh'), ?_⟩
                          refine ⟨fun W hW _ => by go_simp <;> (intro hh; have hh' : (none : Option Bool) = some _ := hh; cases hh'), ?_⟩
                          refine ⟨fun W hW _ => by go_simp <;> (intro hh; have hh' : (none : Option Bool) = some _ := hh; cases hh'), ?_⟩
                          refine ⟨fun W hW _ => by go_simp <;> (intro hh; have hh' : (none : Option Bool) = some _ := hh; cases hh'), ?_⟩
                          refine ⟨fun W hW _ => by go_simp <;> (intro hh; have hh' : (none : Option Bool) = some _ := hh; cases hh'), ?_⟩
                          refine ⟨fun W hW _ => by go_simp <;> (intro hh; have hh' : (none : Option Bool) = some _ := hh; cases hh'), ?_⟩
                          refine ⟨fun W hW _ => by go_simp <;> (intro hh; have hh' : (none : Option Bool) = some _ := hh; cases hh'), ?_⟩
                          refine ⟨fun W hW _ => by go_simp <;> (intro hh; have hh' : (none : Option Bool) = some _ := hh; cases hh'), ?_⟩
                          refine ⟨fun W hW _ => by go_simp <;> (intro hh; have hh' : (none : Option Bool) = some _ := hh; cases hh'), ?_⟩
                          refine ⟨fun W hW _ => by go_simp <;> (intro hh; have hh' : (none : Option Bool) = some _ := hh; cases hh'), ?_⟩
                          refine ⟨fun W hW _ => by go_simp <;> (intro hh; have hh' : (none : Option Bool) = some _ := hh; cases hh'), ?_⟩
                          refine ⟨fun W hW _ => by go_simp <;> (intro hh; have hh' : (none : Option Bool) = some _ := hh; cases hh'), ?_⟩
                          refine ⟨fun W hW _ => by go_simp <;> (intro hh; have hh' : (none : Option Bool) = some _ := hh; cases hh'), ?_⟩
                          refine ⟨fun W hW _ => by go_simp <;> (intro hh; have hh' : (none : Option Bool) = some _ := hh; cases hh'), ?_⟩
                          refine ⟨fun W hW _ => by go_simp <;> (intro hh; have hh' : (none : Option Bool) = some _ := hh; cases hh'), ?_⟩
                          refine ⟨fun W hW _ => by go_simp <;> (intro hh; have hh' : (none : Option Bool) = some _ := hh; cases hh'), ?_⟩
                          refine ⟨fun W hW _ => by go_simp <;> (intro hh; have hh' : (none : Option Bool) = some _ := hh; cases hh'), ?_⟩
                          refine ⟨fun W hW _ => by go_simp <;> (intro hh; have hh' : (none : Option Bool) = some _ := hh; cases hh'), ?_⟩
                          refine ⟨fun W hW _ => by go_simp <;> (intro hh; have hh' : (none : Option Bool) = some _ := hh; cases hh'), ?_⟩
                          refine ⟨fun W hW _ => by go_simp <;> (intro hh; have hh' : (none : Option Bool) = some _ := hh; cases hh'), ?_⟩
                          refine ⟨fun W hW _ => by go_simp; first | exact ⟨Ext.refl _, rfl⟩ | exact Ext.refl _, ?_⟩
                          refine ⟨fun W hW _ => by go_simp; first | exact ⟨Ext.refl _, rfl⟩ | exact Ext.refl _, ?_⟩
                          intro W hW _
                          have hE18 := mkHid (hE16.out.trans (hW18.out.trans hW))
                          clear HC' HN' HMC' HMN' hW
                          go_simp
                          go_wp2_with fail
                          refine ⟨⟨k + 1, by omega, by go_num, hE18.out⟩, by simp [intOf]; omega⟩
                    · have hk2 : (d.kd == 2) = false := by simpa [lensB] using hl
                      have hk3 : (d.kd != 2) = true := by simp [bne, hk2]
                      clear KC hwk hl
                      have tok : Tok 73 := .mk _
                      go_wp2_with (first
                        | ((have _t : Tok 73 := tok); clear _t; clear tok; (have tok : Tok 74 := .mk _); refine wpList_store_row rfl 34 (.tmp 17) (.tmp 126) rfl gd #[.bool d2.b1, .slice d2.a1 d2.n1 d2.c1, .bool d2.b2, .slice d2.a2 d2.n2 d2.c2] rfl rfl 34 _ hgd.out (by kernel_rfl) rfl (by kernel_rfl) ?_; rw [← hw17.out]))
                      refine ⟨⟨k + 1, by omega, by go_num, (hE16.out.trans hW17.out)⟩, by simp [intOf]; omega⟩
              · have hke : k = os.length := by omega
                subst hke
                have hE17 := mkHid (hE15'.out.trans hEr)
                clear hEr
                go_wp2_with fail
                go_ret
                exact ⟨rfl, hE17.out⟩
end Go.Proofs.YtkkfgphcmnhabaaGreatDoor
namespace Go.Proofs.YtkkfgphcmnhabaaGreatDoor
set_option maxRecDepth 100000
open Go Go.ChangeShapes Go.WideShapes Go.ChangeAt Go.RowKit Go.Joins Go.Deep
theorem ownKnob25 : ownKnob Tryz.prog.godebug = none := by kernel_rfl
section
variable {H : Type} {enc : TypeId × Value → H}
/-- A row with listed variables, its first world's shape told too. -/
theorem handed_shaped {a : Assume} {C : Checked} {os : Os} {f : FuncId} {fn : Func} {s : ChangeSpec} {conds : List PathCond} {apart fresh handsOn again : Bool} {X : World → Array Value → Prop}
    (hX : ∀ (w w' : World) (args : Array Value), w.heap = w'.heap → X w args → X w' args) (own : ownKnob C.prog.godebug = none) (started : os.Started) (noInit : C.prog.inits.idxOf? f = none) (hfn : C.prog.funcs[f]? = some fn)
    (witness : ∃ (w : World) (tape : Tape) (i : Input), w.os = os ∧ (w.forCall tape i).Shaped C.prog ∧ i.vars = [] ∧ Input.okWide C.prog (w.forCall tape i) .any w.heap.size f i ∧
      ((s.pre enc C.prog fn conds apart (w.forCall tape i).memory i.args ∧ X (w.forCall tape i).memory i.args) ∧ sizedMet enc C.prog fn (OpenSpec.ofChange s) apart (w.forCall tape i).memory i.args) ∧ a.holds C.prog (lone (Frame.enter C.prog f i.args .normal) [] (w.forCall tape i)))
    (contract : ∀ (W : World) (base : Nat) (args : Array Value) (ds gs : List (DataW H)) (before : List MemPlace), (∀ (j : Nat) t v, fn.params[j]? = some t → args[j]? = some v → Value.okWide C.prog W .any base t v) →
      DataW.Whole enc C.prog fn.params.toList s.vars apart W args.toList ds gs before → conds.all (PathCond.test C.prog ⟨fn.params.toList, ds, s.plain.varTypes C.prog, gs⟩) = true →
      (DataW.weightsEach C.prog (fn.params.toList ++ s.plain.varTypes C.prog) (ds ++ gs)).all (· ≤ reachBytes) = true → X W args → W.ShapedOpen C.prog → a.holds C.prog (lone (Frame.enter C.prog f args .normal) [] W) →
      Calls C.prog f args W fun e W' => ∃ v, e = .returned v ∧ s.post enc C.prog fn apart fresh handsOn again W args v W') :
    ReturnsInHanded a C os f .any (fun w args => (s.pre enc C.prog fn conds apart w args ∧ X w args) ∧ sizedMet enc C.prog fn (OpenSpec.ofChange s) apart w args) (s.post enc C.prog fn apart fresh handsOn again) := by
  refine returnsInHanded_of_calls own started noInit witness fun w tape i _ hsh _ hok hpre hh => ?_
  have hval := hok
  obtain ⟨_, _, _, fn1, e1, _, _, _, _, hv⟩ := hval
  obtain rfl : fn1 = fn := Option.some.inj (e1.symm.trans hfn)
  obtain ⟨⟨⟨ds, gs, before, hw, hc⟩, hx⟩, hz⟩ := hpre
  have key := contract (w.forCall tape i) w.heap.size i.args ds gs before hv (DataW.Whole.of_heap (w' := w.forCall tape i) (by rfl) hw) hc (hz.weights hw) (hX _ _ _ (by rfl) hx) hsh hh
  refine key.mono ?_
  rintro e W' ⟨v, rfl, hp⟩
  exact ChangeSpec.post_blind hp
end
theorem max0_of {W : World} (h : W.ShapedOpen Tryz.prog) : Max0 W := by
  obtain ⟨m, hm⟩ := cell_of_shapedOpen_int (P := Tryz.prog) (w := W) (g := 0) (t := 3) (zero := #[.int .i64 0]) (k := .i64) h (of_decide_eq_true (by kernel_rfl)) (by kernel_rfl) rfl (by kernel_rfl) (by kernel_rfl) Tryz.underlying3
  exact ⟨m, hm⟩
theorem tab10_laid : (Rows.laid_internal_strconv_uint64pow10 : DataW Unit) = Lib.tabData .u64 Lib.pow10Tab := by kernel_rfl
theorem tab10_of {W : World} (h : laidMetH Tryz.prog Rows.catalogHoldsRow.laid W) : Tab10 W := by
  rw [MakeChecks.laidMetH_plain _ _ _ (by kernel_rfl)] at h
  obtain ⟨ps, ⟨_, _, _, _, _, _, _, _, _, _, h2, _⟩, _⟩ := h
  obtain ⟨_, _, _, _, _, _, _, _, _, _, h3, _⟩ := h2
  obtain ⟨g, t, cs, fuel, p, q, hg, hty, hvar, hd, _, _⟩ := h3
  obtain rfl := Option.some.inj ((show Tryz.prog.globalNamed "internal/strconv.uint64pow10" = some 1 by kernel_rfl).symm.trans hg)
  rw [tab10_laid] at hd
  obtain rfl := Option.some.inj ((show (Tryz.prog.globals[1]?).map (·.type) = some 203 by kernel_rfl).symm.trans hty)
  have hc := Lib.cells_of_tab Tryz.underlying203 Tryz.underlying151 (by kernel_rfl) (by kernel_rfl) hd
  show W.var? Tryz.prog "internal/strconv.uint64pow10" = some _
  rw [hvar, ← hc]
theorem inL_of {H : Type} {enc : TypeId × Value → H} {w : World} {base : Nat} {spare : Nat → Bool} {held : Bool} {r : Reach} {b0 : Nat} {v : Value} {d : DataW H} {p : List MemPlace} (hv : Value.okWide Tryz.prog w r b0 22 v) (h : DataW.Trod enc Tryz.prog w base spare held 22 v d p)
    (hM : ∀ k ∈ d.weights Tryz.prog 22, k ≤ reachBytes) : ∃ vs, InL w v vs := by
  obtain ⟨a, len, cap, rfl⟩ := okWide_slice Tryz.underlying22 hv
  obtain ⟨fuel, hh⟩ := h
  obtain ⟨s, vs, e, hi⟩ := open_parts hh reachBytes hM reach_le
  have : s = .slice a len cap := by
    have e' : [Value.slice a len cap] = [s] := e
    simpa using e'.symm
  subst this
  exact ⟨vs, hi⟩
end Go.Proofs.YtkkfgphcmnhabaaGreatDoor
namespace Go.Proofs.YtkkfgphcmnhabaaGreatDoor
set_option maxRecDepth 100000
open Go Go.ChangeShapes Go.WideShapes Go.ChangeAt Go.RowKit Go.Joins Go.Deep
theorem tab10_near {W : World} (h : laidMetH Tryz.prog Rows.catalogNearestRow.laid W) : Tab10 W := tab10_of h
set_option maxRecDepth 100000 in
theorem nearest_lifted (os : Os) (started : os.Started) (H : Type) (enc : TypeId × Value → H) :
    ReturnsInHanded {} Tryz.checked os 4 .any (fun w args => (Rows.catalogNearestSpec.pre enc Tryz.prog Tryz.f4 [] false w args ∧ laidMetH Tryz.prog Rows.catalogNearestRow.laid w) ∧ sizedMet enc Tryz.prog Tryz.f4 (OpenSpec.ofChange Rows.catalogNearestSpec) false w args)
      (Rows.catalogNearestSpec.post enc Tryz.prog Tryz.f4 false true false false) := by
  refine handed_shaped (C := Tryz.checked) (X := fun w _ => laidMetH Tryz.prog Rows.catalogNearestRow.laid w) (fun _ _ _ hh h => h.of_heap hh) ownKnob25 started (by kernel_rfl) Tryz.func4
    (ChangeSpec.witness_shaped (enc := enc) (C := Tryz.checked) (os := os) (X := fun w _ => laidMetH Tryz.prog Rows.catalogNearestRow.laid w) false (World.laidAll Tryz.prog os Rows.catalogNearestRow.laid) #[.slice none 0 0, .agg #[.bool false, .slice none 0 0, .bool false, .slice none 0 0]] 8 (World.laidAll_os _ _ _)
      (World.shaped_of_ZipB (by kernel_rfl) (by kernel_rfl)) (by kernel_rfl) (by kernel_rfl) (by kernel_rfl)
      (by rw [MakeChecks.laidMetH_plain _ _ _ (by kernel_rfl)]; exact laidMet_laidAll _ (by kernel_rfl) (by kernel_rfl))) ?_
  intro W base args ds gs before hval0 hW _ hsz hlaid hsh _
  have hW' := hW
  obtain ⟨p, q, hA0, hV, rfl, hfz, hnd⟩ := hW
  have hA : DataW.TrodAll enc Tryz.prog W 0 (fun _ => true) true Tryz.f4.params.toList args.toList ds p := hA0
  rw [Tryz.params4] at hA
  obtain ⟨v0, v1, d0, d1, p0, p1, rfl, rfl, rfl, h0, h1⟩ := trodAll_two hA
  obtain ⟨rfl, rfl⟩ := trodVars_none hV
  have P3 : Tryz.f4.params = #[22, 34] := Tryz.params4
  have hw0 : ∀ k ∈ d0.weights Tryz.prog 22, k ≤ reachBytes := by
    intro k hk
    have hz := List.all_eq_true.1 hsz
    rw [P3] at hz
    exact of_decide_eq_true (hz k (DataW.weights_mem_each (j := 0) (t := 22) (d := d0) rfl rfl k hk))
  have hw1 : ∀ k ∈ d1.weights Tryz.prog 34, k ≤ reachBytes := by
    intro k hk
    have hz := List.all_eq_true.1 hsz
    rw [P3] at hz
    exact of_decide_eq_true (hz k (DataW.weights_mem_each (j := 1) (t := 34) (d := d1) rfl rfl k hk))
  obtain ⟨vs, hR0⟩ : ∃ vs, InL W v0 vs := inL_of (hval0 0 22 v0 (by rw [P3]; rfl) rfl) h0 hw0
  have hR1 : RawF W v1 := rawF_of (hval0 1 34 v1 (by rw [P3]; rfl) rfl) h1 hw1
  have hlt0 : ∀ x ∈ p0, x.block < W.heap.size := fun x hx => hW'.lt x (by simp [hx])
  have hlt1 : ∀ x ∈ p1, x.block < W.heap.size := fun x hx => hW'.lt x (by simp [hx])
  have key : Calls Tryz.prog 4 #[v0, v1] W fun e w' => e = .returned (.bool true) ∧ Ext W w' := nearest_c v0 v1 vs W hR0 (max0_of hsh) (tab10_near hlaid) hR1
  refine key.mono fun e W' h => ?_
  obtain ⟨rfl, hE⟩ := h
  refine ⟨_, rfl, _, _, _, [], p0 ++ p1, [], hW', trodAll_mk1 (shut_bool Tryz.underlying4 _), ?_, rfl, hE.frame _, fun h => by cases h⟩
  have : Tryz.f4.params.toList = [22, 34] := by rw [P3]
  rw [this]
  exact trodAll_mk2 (Below.trod (by kernel_rfl) (by kernel_rfl) (of_decide_eq_true (by kernel_rfl)) h0 hE hlt0) (Below.trod (by kernel_rfl) (by kernel_rfl) (of_decide_eq_true (by kernel_rfl)) h1 hE hlt1)
theorem nearest_row : Rows.CatalogNearestSaid :=
  OpenClaim.holds_of_wide 4 Tryz.f4 rfl rfl rfl rfl rfl rfl rfl ⟨rfl, rfl, rfl, rfl, rfl⟩ rfl rfl rfl rfl rfl (by kernel_rfl) Tryz.func4 (by kernel_rfl)
    (of_decide_eq_true (by kernel_rfl)) (by unfold Func.isWrapper; first | (rw [if_pos (by decide +kernel)]; kernel_rfl) | (rw [if_neg (by decide +kernel)]; exact ⟨rfl, rfl⟩))
    (fun os started H enc _ => nearest_lifted os started H enc)
theorem nearest_holds : Rows.CatalogNearestCardSaid :=
  Claim7.holds_tied_plain_at .later [] [.data, .data, .data, .data, .sentinel, .sentinel, .pinned] true (true, "467df2a577e183530582c2fd9acd448e9f1fb72ebd22692cbfb33fd2037bf1eb") true
    nearest_row (fun _ h => by cases h) (by kernel_rfl) (fun _ h => by cases h) catalogNearest_row_tie rfl ⟨rfl, rfl⟩ (by kernel_rfl) rfl
    (fun f fn hf hfn => by
      obtain rfl : f = 4 := Option.some.inj ((show Tryz.prog.funcNamed "polestar/polestarlaw25.CatalogNearest" = some 4 by kernel_rfl).symm.trans hf) |>.symm
      obtain rfl : fn = Tryz.f4 := (Option.some.inj (Tryz.func4.symm.trans hfn)).symm
      exact ⟨by kernel_rfl, fun j t ht => by
        rw [Tryz.params4] at ht
        have hm : t ∈ [22, 34] := by simpa using Array.mem_of_getElem? ht
        have hall : ([22, 34].all fun u => !Tryz.prog.wantsStandIn u) = true := by kernel_rfl
        exact (show Tryz.prog.wantsStandIn t = false by simpa using List.all_eq_true.1 hall t hm)⟩)
    (by kernel_rfl)
#print axioms nearest_holds
end Go.Proofs.YtkkfgphcmnhabaaGreatDoor
