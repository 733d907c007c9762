/-
  law25: beyond, of a script of one op: printed by tools/gen_beyond.py. period: Power: printed by tools/gen_pow.py. period: Chebyshev and Power for whatever comes in; the plain law of Chebyshev's numbers. period: trace. period: plain, order, Order. period: order, Order. law14: lives. law01: MatrixCost, RayCost, Beyond, Whole, Trips: printed by tools/gen_cost.py. Regions that draw their order, in which one operation that changes no memory may come late, behind operations of the tail: no program. Printed by tools/gen_late.py out of XPre. PeriodPell, walked: printed by tools/gen_pell.py. What comes in, opened: a fraction, a matrix, a ray as data. What comes in, opened: an element, a part, an op as data: printed by tools/gen_opens.py. law25: CatalogNone, walked: printed by tools/gen_none.py.
-/
import Derived.Test.YtplhndmncjoghaaGreatDoorMAK
import Derived.Test.YtplhndmncjoghaaGreatDoorMAJ
import Derived.Test.YtplhndmncjoghaaGreatDoorMAH
import Derived.Test.YtplhndmncjoghaaGreatDoorMAB
import Derived.Test.YtplhndmncjoghaaGreatDoorMAA
import Derived.ProofKit
import Derived.OpenShut
import Derived.Lib.SmallJoins
import Derived.Carry
import Derived.Deep.Slices
import Derived.SizedLaws
namespace Go.Proofs.YtplhndmncjoghaaGreatDoor
set_option maxRecDepth 100000
open Go Go.RowKit Go.Proofs
/-- How much an op holds. -/
def opS (nm pn : ByteArray) (n1 n2 n3 n4 n5 n6 : Nat) : Int := 1 + nm.size + (1 + pn.size + elemS n1 n2 n3 n4) + (1 + n5 + (1 + n6))
/-- One part, in a row of its own. -/
def SlP (cs : Array Value) (w : World) (v : Value) : Prop := ∃ b, v = .slice (some ⟨b, 0, none⟩) 1 1 ∧ w.heap[b]? = some (.cells cs 31 (0, 0))
theorem st_slP {ss : List FSpec} (cs : Array Value) (h : StableAll Ext ss) : StableAll Ext (.pred (SlP cs) :: ss) :=
  ⟨fun _ _ _ e ⟨b, h1, h2⟩ => ⟨b, h1, e.blk h2⟩, h⟩
set_option maxHeartbeats 6400000 in
theorem beyond_1 (kd : Int) (pn : ByteArray) (pk co : Int) (nm : ByteArray) (b1 : Bool) (a1 : Option Addr) (n1 c1 : Nat) (b2 : Bool) (a2 : Option Addr) (n2 c2 : Nat) (b3 : Bool) (a3 : Option Addr) (n3 c3 : Nat) (b4 : Bool) (a4 : Option Addr) (n4 c4 : Nat) (b5 : Bool) (a5 : Option Addr) (n5 c5 : Nat) (b6 : Bool) (a6 : Option Addr) (n6 c6 : Nat) (g : Nat) (w : World) (hn1 : n1 ≤ 140737488355328) (hn2 : n2 ≤ 140737488355328) (hn3 : n3 ≤ 140737488355328) (hn4 : n4 ≤ 140737488355328) (hn5 : n5 ≤ 140737488355328) (hn6 : n6 ≤ 140737488355328) (hpn : pn.size ≤ 140737488355328) (hnm : nm.size ≤ 140737488355328)
    (hg : w.heap[g]? = some (.cells #[.int .u8 kd, .string pn, .int .u8 pk, .bool b1, .slice a1 n1 c1, .bool b2, .slice a2 n2 c2, .bool b3, .slice a3 n3 c3, .bool b4, .slice a4 n4 c4, .int .i64 co, .string nm, .bool b5, .slice a5 n5 c5, .bool b6, .slice a6 n6 c6] 33 (0, 0))) :
    Calls Tryz.prog 4 #[.slice (some ⟨g, 0, none⟩) 1 1] w fun e w' => e = .returned (.bool (decide (1048576 < opS nm pn n1 n2 n3 n4 n5 n6))) ∧ Ext w w' := by
  have k1 := mkHid (fun b W h => partsSize_1 pn pk co b1 a1 n1 c1 b2 a2 n2 c2 b3 a3 n3 c3 b4 a4 n4 c4 b W hn1 hn2 hn3 hn4 hpn h)
  have k2 := mkHid (fun W => fracSize_c b5 b6 a5 a6 n5 c5 n6 c6 W hn5 hn6)
  unfold opS
  obtain ⟨hb1, hb2⟩ := elemS_b hn1 hn2 hn3 hn4
  obtain ⟨Z, hZ⟩ : ∃ Z : Int, Z = 1 + pn.size + elemS n1 n2 n3 n4 := ⟨_, rfl⟩
  obtain ⟨F, hF⟩ : ∃ F : Int, F = 1 + n5 + (1 + n6) := ⟨_, rfl⟩
  obtain ⟨m, hm⟩ : ∃ m : Int, m = nm.size := ⟨_, rfl⟩
  rw [← hZ] at k1
  rw [← hF] at k2
  rw [← hZ, ← hF, ← hm]
  obtain ⟨hZ1, hZ2⟩ : 0 ≤ Z ∧ Z ≤ 2251799813685248 := by omega
  obtain ⟨hF1, hF2⟩ : 0 ≤ F ∧ F ≤ 1125899906842624 := by omega
  obtain ⟨hm1, hm2⟩ : 0 ≤ m ∧ m ≤ 140737488355328 := by omega
  replace hm := mkHid hm
  clear hZ hF hn1 hn2 hn3 hn4 hn5 hn6 hpn hnm hb1 hb2
  generalize hcs : (#[.int .u8 kd, .string pn, .int .u8 pk, .bool b1, .slice a1 n1 c1, .bool b2, .slice a2 n2 c2, .bool b3, .slice a3 n3 c3, .bool b4, .slice a4 n4 c4, .int .i64 co, .string nm, .bool b5, .slice a5 n5 c5, .bool b6, .slice a6 n6 c6] : Array Value) = CS at *
  have z12 : ∀ W, Ext w W → W.cell? ⟨g, 12, none⟩ = some (.string nm) := fun W e => row16_cells (by have := e.blk hg; rw [← hcs] at this; exact this) 12
  subst hcs
  have HG := mkHid (fun W (e : Ext w W) => e.blk hg)
  clear hg
  go_enter Tryz.func4, Tryz.ntmps4
  go_wp2_with fail
  refine wp_loop_rounds 2 ?_
  rw [rounds_succ]
  go_wp2_with fail
  apply region_extT [.val (.int .i64 0), .val (.int .i64 1), .val (.slice (some ⟨g, 0, none⟩) 1 1), .val (.int .i64 0), .val (.pointer (some ⟨g, 0, none⟩)), .val (.pointer (some ⟨g, 12, none⟩)), .val (.string nm), .val (.int .i64 m), .val (.int .i64 (1 + m)), .val (.slice (some ⟨g, 0, none⟩) 1 1), .val (.int .i64 0), .val (.pointer (some ⟨g, 0, none⟩)), .val (.pointer (some ⟨g, 1, none⟩)), .val (.agg #[.string pn, .int .u8 pk, .bool b1, .slice a1 n1 c1, .bool b2, .slice a2 n2 c2, .bool b3, .slice a3 n3 c3, .bool b4, .slice a4 n4 c4, .int .i64 co]), .pred (SlP #[.string pn, .int .u8 pk, .bool b1, .slice a1 n1 c1, .bool b2, .slice a2 n2 c2, .bool b3, .slice a3 n3 c3, .bool b4, .slice a4 n4 c4, .int .i64 co]), .val (.int .i64 Z), .val (.int .i64 (1 + m + Z)), .val (.slice (some ⟨g, 0, none⟩) 1 1), .val (.int .i64 0), .val (.pointer (some ⟨g, 0, none⟩)), .val (.pointer (some ⟨g, 13, none⟩)), .val (.agg #[.bool b5, .slice a5 n5 c5, .bool b6, .slice a6 n6 c6]), .val (.int .i64 F), .val (.int .i64 (1 + m + Z + F))] (by kernel_rfl) (stable_vals _ (stable_vals _ (stable_vals _ (stable_vals _ (stable_vals _ (stable_vals _ (stable_vals _ (stable_vals _ (stable_vals _ (stable_vals _ (stable_vals _ (stable_vals _ (stable_vals _ (stable_vals _ (st_slP _ (stable_vals _ (stable_vals _ (stable_vals _ (stable_vals _ (stable_vals _ (stable_vals _ (stable_vals _ (stable_vals _ (stable_vals _ (trivial)))))))))))))))))))))))))
  iterate 6 (refine ⟨fun W hW _ => by go_simp; first | exact ⟨Ext.refl _, rfl⟩ | exact Ext.refl _, ?_⟩)
  refine ⟨fun W hW _ => by go_simp; first | exact ⟨Ext.refl _, rfl⟩ | exact Ext.refl _, ?_⟩
  refine ⟨fun W hW _ => by go_simp; first | exact ⟨Ext.refl _, hm.out.symm⟩ | exact ⟨Ext.refl _, by rw [hm.out]⟩ | exact Ext.refl _, ?_⟩
  refine ⟨fun W hW _ => by go_simp; exact ⟨Ext.refl _, by rw [IntKind.wrap_i64]; omega⟩, ?_⟩
  iterate 4 (refine ⟨fun W hW _ => by go_simp; first | exact ⟨Ext.refl _, rfl⟩ | exact Ext.refl _, ?_⟩)
  refine ⟨?lp, ?_⟩
  case lp =>
    intro W hW hF
    have hr := HG.out W hW
    with_reducible refine fr_load_sub ?hw 31 (.tmp 23) ?ho g 1 ?hx 33 _ #[.string pn, .int .u8 pk, .bool b1, .slice a1 n1 c1, .bool b2, .slice a2 n2 c2, .bool b3, .slice a3 n3 c3, .bool b4, .slice a4 n4 c4, .int .i64 co] (0, 0) _ hr ?hs Tryz.underlying31 ?hd ?hi ?h
    case hw => kernel_rfl
    case ho => rfl
    case hx => kernel_rfl
    case hs => rfl
    case hd => rfl
    case hi => kernel_rfl
    case h => exact ⟨Ext.refl _, rfl⟩
  refine ⟨fun W hW _ => ?bs, fun v25 => ?_⟩
  case bs =>
    go_simp
    exact ⟨(Ext.refl _).al _, _, rfl, heap_alloc_new _ _⟩
  refine ⟨fun W hW hF => ?cp, ?_⟩
  case cp =>
    have hr : SlP #[.string pn, .int .u8 pk, .bool b1, .slice a1 n1 c1, .bool b2, .slice a2 n2 c2, .bool b3, .slice a3 n3 c3, .bool b4, .slice a4 n4 c4, .int .i64 co] W v25 := hF.1 rfl
    obtain ⟨b, rfl, hb⟩ := hr
    go_simp
    refine (k1.out b W hb).mono ?_
    rintro e w' ⟨rfl, h1⟩
    exact ⟨rfl, h1⟩
  refine ⟨fun W hW _ => by go_simp; exact ⟨Ext.refl _, by rw [IntKind.wrap_i64]; omega⟩, ?_⟩
  iterate 4 (refine ⟨fun W hW _ => by go_simp; first | exact ⟨Ext.refl _, rfl⟩ | exact Ext.refl _, ?_⟩)
  refine ⟨?lf, ?_⟩
  case lf =>
    intro W hW hF
    have hr := HG.out W hW
    with_reducible refine fr_load_sub ?hw 27 (.tmp 31) ?ho g 13 ?hx 33 _ #[.bool b5, .slice a5 n5 c5, .bool b6, .slice a6 n6 c6] (0, 0) _ hr ?hs Tryz.underlying27 ?hd ?hi ?h
    case hw => kernel_rfl
    case ho => rfl
    case hx => kernel_rfl
    case hs => rfl
    case hd => rfl
    case hi => kernel_rfl
    case h => exact ⟨Ext.refl _, rfl⟩
  refine ⟨fun W hW _ => ?cf, ⟨fun W hW _ => by go_simp; exact ⟨Ext.refl _, by rw [IntKind.wrap_i64]; omega⟩, ?_⟩⟩
  case cf =>
    go_simp
    refine (k2.out W).mono ?_
    rintro e w' ⟨rfl, h1⟩
    exact ⟨rfl, h1⟩
  intro W hW _
  clear z12 HG
  replace hW := mkHid hW
  obtain ⟨S, hS⟩ : ∃ S : Int, S = 1 + m + Z + F := ⟨_, rfl⟩
  rw [← hS]
  clear hm hm1 hm2 hZ1 hZ2 hF1 hF2
  replace hS := mkHid hS
  go_simp
  by_cases hc : 1048576 < S
  · have hd : decide (1048576 < S) = true := decide_eq_true hc
    go_wp2_with fail
    go_ret
    exact ⟨by rw [← hS.out]; simp [hc], hW.out⟩
  · have hd : decide (1048576 < S) = false := decide_eq_false hc
    go_wp2_with fail
    rw [rounds_succ]
    go_wp2_with fail
    go_ret
    exact ⟨by rw [← hS.out]; simp [hc], hW.out⟩
end Go.Proofs.YtplhndmncjoghaaGreatDoor
namespace Go.Proofs.YtplhndmncjoghaaGreatDoor
set_option maxRecDepth 100000
open Go Go.RowKit Go.Proofs
theorem fst_fracR {ss : List Fresh.FSpec} (q : Rat) (h : Fresh.StableAll Ext ss) : Fresh.StableAll Ext (.pred (fun W v => FracR W v q) :: ss) := ⟨fun _ _ _ e h => FracR.ext h e, h⟩
/-- A matrix of four fractions that reads so. -/
def MatR (w : World) (v : Value) (a b c d : Rat) : Prop :=
  ∃ P1 P2 P3 P4 P5 P6 P7 P8 Q1 Q2 Q3 Q4 Q5 Q6 Q7 Q8 S1 S2 S3 S4 S5 S6 S7 S8 T1 T2 T3 T4 T5 T6 T7 T8, v = .agg #[.bool P1, .slice P2 P3 P4, .bool P5, .slice P6 P7 P8, .bool Q1, .slice Q2 Q3 Q4, .bool Q5, .slice Q6 Q7 Q8, .bool S1, .slice S2 S3 S4, .bool S5, .slice S6 S7 S8, .bool T1, .slice T2 T3 T4, .bool T5, .slice T6 T7 T8] ∧ FracR w (.agg #[.bool P1, .slice P2 P3 P4, .bool P5, .slice P6 P7 P8]) a ∧ FracR w (.agg #[.bool Q1, .slice Q2 Q3 Q4, .bool Q5, .slice Q6 Q7 Q8]) b ∧ FracR w (.agg #[.bool S1, .slice S2 S3 S4, .bool S5, .slice S6 S7 S8]) c ∧ FracR w (.agg #[.bool T1, .slice T2 T3 T4, .bool T5, .slice T6 T7 T8]) d
theorem MatR.ext {w w' : World} {v : Value} {a b c d : Rat} (h : MatR w v a b c d) (e : Ext w w') : MatR w' v a b c d := by
  obtain ⟨P1, P2, P3, P4, P5, P6, P7, P8, Q1, Q2, Q3, Q4, Q5, Q6, Q7, Q8, S1, S2, S3, S4, S5, S6, S7, S8, T1, T2, T3, T4, T5, T6, T7, T8, h0, h1, h2, h3, h4⟩ := h
  exact ⟨P1, P2, P3, P4, P5, P6, P7, P8, Q1, Q2, Q3, Q4, Q5, Q6, Q7, Q8, S1, S2, S3, S4, S5, S6, S7, S8, T1, T2, T3, T4, T5, T6, T7, T8, h0, h1.ext e, h2.ext e, h3.ext e, h4.ext e⟩
theorem fst_matR {ss : List Fresh.FSpec} (a b c d : Rat) (h : Fresh.StableAll Ext ss) : Fresh.StableAll Ext (.pred (fun W v => MatR W v a b c d) :: ss) := ⟨fun _ _ _ e h => MatR.ext h e, h⟩
theorem anyM_zero (w : World) : AnyM w (.agg #[.bool false, .slice none 0 0, .bool false, .slice none 0 0, .bool false, .slice none 0 0, .bool false, .slice none 0 0, .bool false, .slice none 0 0, .bool false, .slice none 0 0, .bool false, .slice none 0 0, .bool false, .slice none 0 0]) none none none none :=
  ⟨_, _, _, _, _, _, _, _, _, _, _, _, _, _, _, _, _, _, _, _, _, _, _, _, _, _, _, _, _, _, _, _, rfl, any_zero w, any_zero w, any_zero w, any_zero w⟩
theorem lr_four {w : World} {g : Nat} {b1 b2 b3 b4 b5 b6 b7 b8 : Bool} {a1 a2 a3 a4 a5 a6 a7 a8 : Option Addr} {n1 c1 n2 c2 n3 c3 n4 c4 n5 c5 n6 c6 n7 c7 n8 c8 : Nat} {o1 o2 o3 o4 : Rat} {T : Nat}
    (hg : w.heap[g]? = some (.cells #[.bool b1, .slice a1 n1 c1, .bool b2, .slice a2 n2 c2, .bool b3, .slice a3 n3 c3, .bool b4, .slice a4 n4 c4, .bool b5, .slice a5 n5 c5, .bool b6, .slice a6 n6 c6, .bool b7, .slice a7 n7 c7, .bool b8, .slice a8 n8 c8] T (0, 0)))
    (h1 : FracR w (.agg #[.bool b1, .slice a1 n1 c1, .bool b2, .slice a2 n2 c2]) o1) (h2 : FracR w (.agg #[.bool b3, .slice a3 n3 c3, .bool b4, .slice a4 n4 c4]) o2)
    (h3 : FracR w (.agg #[.bool b5, .slice a5 n5 c5, .bool b6, .slice a6 n6 c6]) o3) (h4 : FracR w (.agg #[.bool b7, .slice a7 n7 c7, .bool b8, .slice a8 n8 c8]) o4) : LR w g [o1, o2, o3, o4] := by
  intro k hk
  have hk2 : k = 0 ∨ k = 1 ∨ k = 2 ∨ k = 3 := by simp at hk; omega
  rcases hk2 with rfl | rfl | rfl | rfl
  · exact ⟨_, _, _, _, _, _, _, _, by simp [World.cell?, hg], by simp [World.cell?, hg], by simp [World.cell?, hg], by simp [World.cell?, hg], h1⟩
  · exact ⟨_, _, _, _, _, _, _, _, by simp [World.cell?, hg], by simp [World.cell?, hg], by simp [World.cell?, hg], by simp [World.cell?, hg], h2⟩
  · exact ⟨_, _, _, _, _, _, _, _, by simp [World.cell?, hg], by simp [World.cell?, hg], by simp [World.cell?, hg], by simp [World.cell?, hg], h3⟩
  · exact ⟨_, _, _, _, _, _, _, _, by simp [World.cell?, hg], by simp [World.cell?, hg], by simp [World.cell?, hg], by simp [World.cell?, hg], h4⟩
/-- U of one less and of two less, of twice the place. -/
def powU (n : Nat) (t : Rat) : Rat := (itR t n (-1, 0)).2
def powV (n : Nat) (t : Rat) : Rat := (itR t n (-1, 0)).1
def fine4 (a b c d : Rat) : Bool := decide (nf a ≤ 2048) && decide (nf b ≤ 2048) && decide (nf c ≤ 2048) && decide (nf d ≤ 2048)
def fineE (a b c d : Rat) : Int := if fine4 a b c d then 0 else 4
def fineO (a b c d x : Rat) : Option Rat := if fine4 a b c d then some x else none
def pwA (n : Nat) (a d : Rat) : Rat := powU n (a + d) * a - powV n (a + d)
def pwX (n : Nat) (a d b : Rat) : Rat := powU n (a + d) * b
def powE (n : Nat) (a b c d : Rat) : Int := fineE (pwA n a d) (pwX n a d b) (pwX n a d c) (pwA n d a)
def powOA (n : Nat) (a b c d : Rat) : Option Rat := fineO (pwA n a d) (pwX n a d b) (pwX n a d c) (pwA n d a) (pwA n a d)
def powOB (n : Nat) (a b c d : Rat) : Option Rat := fineO (pwA n a d) (pwX n a d b) (pwX n a d c) (pwA n d a) (pwX n a d b)
def powOC (n : Nat) (a b c d : Rat) : Option Rat := fineO (pwA n a d) (pwX n a d b) (pwX n a d c) (pwA n d a) (pwX n a d c)
def powOD (n : Nat) (a b c d : Rat) : Option Rat := fineO (pwA n a d) (pwX n a d b) (pwX n a d c) (pwA n d a) (pwA n d a)
theorem pow_big (n : Nat) (a d : Rat) (hn : n ≤ 4096) (ha : nf a ≤ 2048) (hd : nf d ≤ 2048) : bigR (a + d) n (-1, 0) := by
  have h0 := nf_add_le a d
  have h1 : nl (a + d).num ≤ 4097 := Nat.le_trans (Nat.le_max_left _ _) (show nf (a + d) ≤ 4097 by omega)
  have h2 : nl ((a + d).den : Int) ≤ 4097 := Nat.le_trans (Nat.le_max_right _ _) (show nf (a + d) ≤ 4097 by omega)
  have h3 : nf (a + d) ≤ 67108864 := by omega
  have hz := rat_den (a + d)
  have hQ : 0 < (a + d).den := Nat.pos_of_ne_zero (a + d).den_nz
  generalize a + d = z at *
  refine big_of z (-1, 0) n z.num z.den 1 hn hQ h3 hz ⟨-(z.den : Int), ?_, by simp⟩ ⟨0, rfl, by simp⟩ ?_ (Nat.le_trans (nl_small (by decide)) (by decide))
  · have e : ((-(z.den : Int) : Int) : Rat) = -(z.den : Rat) := by push_cast; rfl
    rw [e]
    generalize (z.den : Rat) = q
    grind
  · have e1 := nl_add (z.num.natAbs : Int) (z.den : Int)
    have e2 : nl ((z.num.natAbs : Nat) : Int) = nl z.num := by unfold nl; rw [Int.natAbs_natCast]
    rw [Int.natCast_add]
    omega

end Go.Proofs.YtplhndmncjoghaaGreatDoor
namespace Go.Proofs.YtplhndmncjoghaaGreatDoor
set_option maxRecDepth 100000
open Go Go.RowKit Go.Proofs
def chE (n : Int) : Option Rat → Int
  | none => 1
  | some x => if n < 0 ∨ 4096 < n then countE n else chebE n.toNat x
def chU (n : Int) : Option Rat → Option Rat
  | none => none
  | some x => if n < 0 ∨ 4096 < n then none else chebOU n.toNat x
def chT (n : Int) : Option Rat → Option Rat
  | none => none
  | some x => if n < 0 ∨ 4096 < n then none else chebOT n.toNat x
/-- What is known where Chebyshev refuses nothing. -/
theorem chE_ok {n : Int} {o : Option Rat} (h : chE n o = 0) : ∃ x, o = some x ∧ 0 ≤ n ∧ n ≤ 4096 ∧ chU n o = some (chebU n.toNat x) ∧ chT n o = some (chebT n.toNat x) := by
  cases o with
  | none => cases h
  | some x =>
    unfold chE at h
    by_cases hn : n < 0 ∨ 4096 < n
    · simp only [if_pos hn] at h
      unfold countE at h
      rcases hn with h1 | h1
      · rw [if_pos h1] at h; cases h
      · rw [if_neg (by omega), if_pos h1] at h; cases h
    · simp only [if_neg hn] at h
      unfold chebE at h
      refine ⟨x, rfl, by omega, by omega, ?_, ?_⟩
      · unfold chU chebOU
        simp only [if_neg hn]
        by_cases hf : nf (chebU n.toNat x) ≤ 2048 ∧ nf (chebT n.toNat x) ≤ 2048
        · rw [if_pos hf]
        · rw [if_neg hf] at h; cases h
      · unfold chT chebOT
        simp only [if_neg hn]
        by_cases hf : nf (chebU n.toNat x) ≤ 2048 ∧ nf (chebT n.toNat x) ≤ 2048
        · rw [if_pos hf]
        · rw [if_neg hf] at h; cases h
theorem opE_ok {f : Rat → Rat → Rat} {o1 o2 : Option Rat} (h : opE f o1 o2 = 0) : ∃ x y, o1 = some x ∧ o2 = some y ∧ opO f o1 o2 = some (f x y) := by
  cases o1 with
  | none => cases h
  | some x =>
    cases o2 with
    | none => cases h
    | some y =>
      refine ⟨x, y, rfl, rfl, ?_⟩
      unfold opE capE at h
      unfold opO capF
      by_cases hf : nf (f x y) ≤ 2048
      · simp only [if_pos hf]
      · simp only [if_neg hf] at h; cases h
def pwE (n : Int) (oa ob oc od : Option Rat) : Int := match oa, ob, oc, od with
  | some a, some b, some c, some d => if a * d - b * c = 1 then (if n < 0 ∨ 4096 < n then countE n else powE n.toNat a b c d) else 1
  | _, _, _, _ => 1
/-- The four places of a power. -/
def pwO (j : Nat) (n : Int) (oa ob oc od : Option Rat) : Option Rat := match oa, ob, oc, od with
  | some a, some b, some c, some d => if a * d - b * c = 1 then (if n < 0 ∨ 4096 < n then none else (match j with | 0 => powOA n.toNat a b c d | 1 => powOB n.toNat a b c d | 2 => powOC n.toNat a b c d | _ => powOD n.toNat a b c d)) else none
  | _, _, _, _ => none
theorem cheb_inv (x : Rat) (k : Nat) : (itR (x + x) k (0, 1)).2 * (itR (x + x) k (0, 1)).2 - (x + x) * (itR (x + x) k (0, 1)).1 * (itR (x + x) k (0, 1)).2 + (itR (x + x) k (0, 1)).1 * (itR (x + x) k (0, 1)).1 = 1 ∧
    (itR (x + x) k (x, 1)).2 = (itR (x + x) k (0, 1)).2 - x * (itR (x + x) k (0, 1)).1 ∧
    (itR (x + x) k (x, 1)).1 = (itR (x + x) k (0, 1)).1 - 2 * x * x * (itR (x + x) k (0, 1)).1 + x * (itR (x + x) k (0, 1)).2 := by
  induction k with
  | zero => refine ⟨?_, ?_, ?_⟩ <;> simp only [itR] <;> grind
  | succ k ih =>
    obtain ⟨h1, h2, h3⟩ := ih
    simp only [itR]
    generalize (itR (x + x) k (0, 1)).1 = p at *
    generalize (itR (x + x) k (0, 1)).2 = q at *
    generalize (itR (x + x) k (x, 1)).1 = r at *
    generalize (itR (x + x) k (x, 1)).2 = s at *
    refine ⟨?_, ?_, ?_⟩ <;> grind
theorem cheb_pell (x : Rat) (k : Nat) : chebT (k + 1) x * chebT (k + 1) x - (x * x - 1) * (chebU k x * chebU k x) = 1 := by
  obtain ⟨h1, h2, h3⟩ := cheb_inv x (k + 1)
  unfold chebT chebU
  have e : (itR (x + x) (k + 1) (0, 1)).1 = (itR (x + x) k (0, 1)).2 := rfl
  rw [← e]
  generalize (itR (x + x) (k + 1) (0, 1)).1 = p at *
  generalize (itR (x + x) (k + 1) (0, 1)).2 = q at *
  rw [h2]
  grind
theorem chebT_zero (x : Rat) : chebT 0 x = 1 := rfl
theorem chebT_one (x : Rat) : chebT 1 x = x := by
  unfold chebT
  simp only [itR]
  grind
theorem chebT_step (x : Rat) (k : Nat) : chebT (k + 2) x = (x + x) * chebT (k + 1) x - chebT k x := rfl
theorem chebT_add (x : Rat) : ∀ n c, chebT (c + n + n) x + chebT c x = 2 * chebT n x * chebT (c + n) x ∧ chebT (c + (n + 1) + (n + 1)) x + chebT c x = 2 * chebT (n + 1) x * chebT (c + (n + 1)) x := by
  intro n
  induction n with
  | zero =>
    intro c
    refine ⟨?_, ?_⟩
    · rw [chebT_zero]; simp only [Nat.add_zero]; grind
    · have := chebT_step x c
      rw [show c + (0 + 1) + (0 + 1) = c + 2 by omega, show c + (0 + 1) = c + 1 by omega, show 0 + 1 = 1 by omega, chebT_one]
      grind
  | succ n ih =>
    intro c
    refine ⟨(ih c).2, ?_⟩
    have h1 := (ih (c + 1)).2
    have h2 := (ih (c + 2)).1
    rw [show c + 1 + (n + 1) + (n + 1) = c + n + n + 3 by omega, show c + 1 + (n + 1) = c + n + 2 by omega] at h1
    rw [show c + 2 + n + n = c + n + n + 2 by omega, show c + 2 + n = c + n + 2 by omega] at h2
    rw [show c + (n + 1 + 1) + (n + 1 + 1) = c + n + n + 4 by omega, show c + (n + 1 + 1) = c + n + 2 by omega, show n + 1 + 1 = n + 2 by omega]
    have s1 := chebT_step x (c + n + n + 2)
    have s2 := chebT_step x n
    have s3 := chebT_step x c
    rw [show c + n + n + 2 + 2 = c + n + n + 4 by omega, show c + n + n + 2 + 1 = c + n + n + 3 by omega] at s1
    generalize chebT (c + n + n + 4) x = t4 at *
    generalize chebT (c + n + n + 3) x = t3 at *
    generalize chebT (c + n + n + 2) x = t2 at *
    generalize chebT (c + n + 2) x = u at *
    generalize chebT (n + 2) x = v2 at *
    generalize chebT (n + 1) x = v1 at *
    generalize chebT n x = v0 at *
    generalize chebT (c + 2) x = d2 at *
    generalize chebT (c + 1) x = d1 at *
    generalize chebT c x = d0 at *
    subst s2
    grind
theorem chebT_mul (x : Rat) (n : Nat) : ∀ k, chebT k (chebT n x) = chebT (n * k) x ∧ chebT (k + 1) (chebT n x) = chebT (n * (k + 1)) x := by
  intro k
  induction k with
  | zero => exact ⟨by rw [Nat.mul_zero, chebT_zero, chebT_zero], by rw [chebT_one, Nat.zero_add, Nat.mul_one]⟩
  | succ k ih =>
    refine ⟨ih.2, ?_⟩
    rw [show k + 1 + 1 = k + 2 by omega, chebT_step, ih.1, ih.2]
    have h := (chebT_add x n (n * k)).1
    rw [show n * k + n + n = n * (k + 2) by grind, show n * k + n = n * (k + 1) by grind] at h
    grind
end Go.Proofs.YtplhndmncjoghaaGreatDoor
namespace Go.Proofs.YtplhndmncjoghaaGreatDoor
set_option maxRecDepth 100000
open Go Go.RowKit Go.Proofs
theorem AnyM.fracs {w : World} {v : Value} {a b c d : Rat} (h : AnyM w v (some a) (some b) (some c) (some d)) : MatR w v a b c d ∧ nf a ≤ 2048 ∧ nf b ≤ 2048 ∧ nf c ≤ 2048 ∧ nf d ≤ 2048 := by
  obtain ⟨A1, A2, A3, A4, A5, A6, A7, A8, B1, B2, B3, B4, B5, B6, B7, B8, C1, C2, C3, C4, C5, C6, C7, C8, D1, D2, D3, D4, D5, D6, D7, D8, h0, h1, h2, h3, h4⟩ := h
  exact ⟨⟨A1, A2, A3, A4, A5, A6, A7, A8, B1, B2, B3, B4, B5, B6, B7, B8, C1, C2, C3, C4, C5, C6, C7, C8, D1, D2, D3, D4, D5, D6, D7, D8, h0, h1.frac.1, h2.frac.1, h3.frac.1, h4.frac.1⟩, h1.frac.2, h2.frac.2, h3.frac.2, h4.frac.2⟩
/-- The loop's state: the trace is none of the numbers so far. -/
def TrI (wo : World) (t : Rat) (k : Int) (wr : World) : Prop := Ext wo wr ∧ ∀ j : Int, -2 ≤ j → j < k → t ≠ (j : Rat)
/-- What trace answers. -/
def TrV (t : Rat) (v : Value) : Prop := ∃ (k : Int) (o : Bool), v = .tuple #[.int .i64 k, .bool o] ∧ (o = true → t = (k : Rat) ∧ -2 ≤ k ∧ k ≤ 2) ∧ (o = false → ∀ j : Int, -2 ≤ j → j ≤ 2 → t ≠ (j : Rat))
theorem rat_int {t : Rat} {k : Int} : t = (k : Rat) ↔ (t.den : Int) = 1 ∧ t.num = k := by
  constructor
  · rintro rfl
    simp
  · rintro ⟨h1, h2⟩
    have h := rat_den t
    have h3 : t.den = 1 := by omega
    rw [h3, h2] at h
    simpa using h
theorem st_intR {ss : List FSpec} (x : Int) (h : StableAll Ext ss) : StableAll Ext (.pred (fun W v => IntR W v x) :: ss) := ⟨fun _ _ _ e h => IntR.ext h e, h⟩
theorem sub_sign {X Y : Int} : (X - Y).sign = 0 ↔ X = Y := by
  rw [Int.sign_eq_zero_iff_zero]
  omega
end Go.Proofs.YtplhndmncjoghaaGreatDoor
namespace Go.Proofs.YtplhndmncjoghaaGreatDoor
set_option maxRecDepth 100000
open Go Go.RowKit Go.Proofs
def plainM (a b c d : Rat) : Bool := decide (b = 0 ∧ c = 0 ∧ a = d)
theorem num_sign (x : Rat) : x.num.sign = 0 ↔ x = 0 := by
  rw [Int.sign_eq_zero_iff_zero]
  exact ⟨fun h => Rat.num_eq_zero.1 h, fun h => by rw [h]; rfl⟩
theorem sign_beq {S : Int} {p : Prop} [Decidable p] (h : S = 0 ↔ p) : (S == 0) = decide p := by
  by_cases hp : p
  · rw [decide_eq_true hp, h.2 hp]; rfl
  · rw [decide_eq_false hp, beq_eq_false_iff_ne]
    exact fun e => hp (h.1 e)
/-- Behind how many trips every ray comes again. -/
def ordM (a b c d : Rat) : Int :=
  if a + d = 2 then (if plainM a b c d then 1 else 0) else if a + d = -2 then (if plainM a b c d then 2 else 0) else if a + d = -1 then 3 else if a + d = 0 then 4 else if a + d = 1 then 6 else 0
end Go.Proofs.YtplhndmncjoghaaGreatDoor
namespace Go.Proofs.YtplhndmncjoghaaGreatDoor
set_option maxRecDepth 100000
open Go Go.RowKit Go.Proofs
theorem ord_none {a b c d : Rat} (h : ∀ j : Int, -2 ≤ j → j ≤ 2 → a + d ≠ (j : Rat)) : ordM a b c d = 0 := by
  unfold ordM
  rw [if_neg (by simpa using h 2 (by omega) (by omega)), if_neg (by simpa using h (-2) (by omega) (by omega)), if_neg (by simpa using h (-1) (by omega) (by omega)), if_neg (by simpa using h 0 (by omega) (by omega)), if_neg (by simpa using h 1 (by omega) (by omega))]
theorem ord_2 {a b c d : Rat} (h : a + d = ((2 : Int) : Rat)) : ordM a b c d = if plainM a b c d then 1 else 0 := by
  unfold ordM
  rw [if_pos (by simpa using h)]
theorem ord_m2 {a b c d : Rat} (h : a + d = ((-2 : Int) : Rat)) : ordM a b c d = if plainM a b c d then 2 else 0 := by
  unfold ordM
  rw [h, if_neg (by decide), if_pos (by rfl)]
theorem ord_m1 {a b c d : Rat} (h : a + d = ((-1 : Int) : Rat)) : ordM a b c d = 3 := by
  unfold ordM
  rw [h, if_neg (by decide), if_neg (by decide), if_pos (by rfl)]
theorem ord_0 {a b c d : Rat} (h : a + d = ((0 : Int) : Rat)) : ordM a b c d = 4 := by
  unfold ordM
  rw [h, if_neg (by decide), if_neg (by decide), if_neg (by decide), if_pos (by rfl)]
theorem ord_1 {a b c d : Rat} (h : a + d = ((1 : Int) : Rat)) : ordM a b c d = 6 := by
  unfold ordM
  rw [h, if_neg (by decide), if_neg (by decide), if_neg (by decide), if_neg (by decide), if_pos (by rfl)]
/-- What Order answers. -/
def ordO : Option Rat → Option Rat → Option Rat → Option Rat → Int
  | some a, some b, some c, some d => if a * d - b * c = 1 then ordM a b c d else 0
  | _, _, _, _ => 0
def ordE (oa ob oc od : Option Rat) : Int := if okM oa ob oc od then 0 else 1
end Go.Proofs.YtplhndmncjoghaaGreatDoor
namespace Go.Proofs.YtplhndmncjoghaaGreatDoor
set_option maxRecDepth 100000
open Go Go.RowKit Go.Proofs
theorem st_anyM {ss : List FSpec} (oa ob oc od : Option Rat) (h : StableAll Ext ss) : StableAll Ext (.pred (fun W v => AnyM W v oa ob oc od) :: ss) := ⟨fun _ _ _ e h => AnyM.ext h e, h⟩
theorem nf_small (x : Rat) (h : x.num.natAbs < 4294967296) (h' : x.den < 4294967296) : nf x ≤ 2048 := by
  unfold nf
  exact Nat.max_le.2 ⟨Nat.le_trans (nl_small h) (by decide), Nat.le_trans (nl_small (by rw [Int.natAbs_natCast]; exact h')) (by decide)⟩
theorem fine_small {a b c d : Rat} (ha : nf a ≤ 2048) (hb : nf b ≤ 2048) (hc : nf c ≤ 2048) (hd : nf d ≤ 2048) : fine4 a b c d = true := by
  unfold fine4
  simp [ha, hb, hc, hd]
theorem lives_u : chebU 3 2 = 56 := by kernel_rfl
theorem lives_t : chebT 3 2 = 26 := by kernel_rfl
theorem lives_a : pwA 3 2 1 = 13 := by kernel_rfl
theorem lives_b : pwX 3 2 1 1 = 8 := by kernel_rfl
theorem lives_d : pwA 3 1 2 = 5 := by kernel_rfl
theorem lives_fine : fine4 13 8 8 5 = true := fine_small (nf_small _ (of_decide_eq_true (by kernel_rfl)) (of_decide_eq_true (by kernel_rfl))) (nf_small _ (of_decide_eq_true (by kernel_rfl)) (of_decide_eq_true (by kernel_rfl))) (nf_small _ (of_decide_eq_true (by kernel_rfl)) (of_decide_eq_true (by kernel_rfl))) (nf_small _ (of_decide_eq_true (by kernel_rfl)) (of_decide_eq_true (by kernel_rfl)))
end Go.Proofs.YtplhndmncjoghaaGreatDoor
namespace Go.Proofs.YtplhndmncjoghaaGreatDoor
set_option maxRecDepth 100000
open Go Go.RowKit Go.Proofs
theorem costV_b (n m : Nat) (hn : n ≤ 140737488355328) (hm : m ≤ 140737488355328) : 0 ≤ costV n m ∧ costV n m ≤ 562949953421312 ∧ (n : Int) ≤ costV n m ∧ (m : Int) ≤ costV n m := by
  have := lowV_b n m
  unfold costV
  omega

/-- What Beyond answers: 'false' only of what is small enough. -/
def ByV (s : Int) (v : Value) : Prop := ∃ r, v = .bool r ∧ (r = false → s ≤ 1048576)
/-- Some answer. -/
def BoolV (v : Value) : Prop := ∃ r, v = .bool r
theorem AnyF.lens {w : World} {b1 b2 : Bool} {a1 a2 : Option Addr} {n1 c1 n2 c2 : Nat} {o : Option Rat} (h : AnyF w (.agg #[.bool b1, .slice a1 n1 c1, .bool b2, .slice a2 n2 c2]) o) : n1 ≤ 4294967296 ∧ n2 ≤ 4294967296 := by
  obtain ⟨x1, l1, x2, l2, ⟨y1, z1, y2, z2, e, h2, h3, -, -⟩, -⟩ := h
  simp only [Value.agg.injEq, Array.mk.injEq, List.cons.injEq, and_true, Value.slice.injEq] at e
  omega
end Go.Proofs.YtplhndmncjoghaaGreatDoor
namespace Go.Proofs.YtplhndmncjoghaaGreatDoor.Late
set_option maxRecDepth 100000
open Go Go.RowKit Go.Proofs.YtplhndmncjoghaaGreatDoor
def okOper (pre : List Nat) (l : List Oper) (n i : Nat) (o : Oper) : Bool :=
  (o.after.toList.all fun e => !Region.binds .any e || decide (e.on < i)) &&
  (if i < n then
    o.dst.isSome && (List.range l.length).all fun j => match l[j]? with
      | some oj => (match oj.dst with
        | some d => (!(o.looksAt l.toArray).contains d || (decide (j < i) && hasEdge o j)) && (j == i || o.dst != some d)
        | none => true)
      | none => true
  else (List.range i).all fun j => pre.contains j || ancB l 16 o j)
def okFree (pre : List Nat) (n size : Nat) (l : List Oper) : Bool :=
  Region.noSelect l.toArray && decide (n ≤ l.length) && (l.all fun o => match o.dst with | some d => decide (d < size) | none => true) &&
    (List.range l.length).all fun i => match l[i]? with | some o => okOper pre l n i o | none => true
section
variable {pre : List Nat} {P : Program} {l0 : List Oper} {R : World → World → Prop} {w0 : World} {Q : Exit → Act → World → Prop}
theorem tail_forced {n : Nat} (htail : ∀ i o, n ≤ i → l0[i]? = some o → ∀ j, j < i → j ∈ pre ∨ ancB l0 16 o j = true) :
    ∀ (k m : Nat) (listed : Array Bool) (a : Act) (W : World) (fuel : Nat), n ≤ m → m + k = l0.length → k ≤ fuel → listed.size = l0.length → (∀ j ∈ pre, listed.getD j false = true) →
      (∀ i o, listed.getD i false = true → l0[i]? = some o → ∀ e ∈ o.after, Region.binds .any e = true → listed.getD e.on false = true) →
      (∀ i, i < l0.length → (listed.getD i false = true ↔ i < m)) →
      (∀ i o, l0[i]? = some o → ∀ e ∈ o.after, Region.binds .any e = true → e.on < i) →
      wpList P l0.toArray Q (l0.drop m) a W → wpAny P .any l0.toArray Q fuel listed a W := by
  intro k
  induction k with
  | zero =>
    intro m listed a W fuel _ hmk _ hsz _ _ hlst _ h
    have hr : Region.ready .any l0.toArray listed = [] := by
      cases hr : Region.ready .any l0.toArray listed with
      | nil => rfl
      | cons i r =>
        have := (mem_ready (md := .any) (ops := l0.toArray) (listed := listed) (j := i)).1 (by rw [hr]; simp)
        have hlt := lt_of_unlisted this.1
        have h2 := (hlst i (by omega)).2 (by omega)
        have h3 := this.1
        simp [hlt] at h2 h3
        rw [h2] at h3
        cases h3
    rw [List.drop_eq_nil_of_le (show l0.length ≤ m by omega)] at h
    exact wpAny_done hr h fuel
  | succ k ih =>
    intro m listed a W fuel hnm hmk hfuel hsz hpre hcl hlst hed h
    obtain ⟨fuel, rfl⟩ : ∃ f, fuel = f + 1 := ⟨fuel - 1, by omega⟩
    have hml : m < l0.length := by omega
    have ho : l0[m]? = some l0[m] := List.getElem?_eq_getElem hml
    have hun : listed.getD m true = false := by
      rcases listed_cases (listed := listed) (i := m) (by omega) with h1 | h1
      · have := (hlst m hml).1 h1; omega
      · exact h1
    have hready : m ∈ Region.ready .any l0.toArray listed := by
      rw [mem_ready]
      exact ⟨hun, _, by simp [hml], fun e he hb => (hlst e.on (by have := hed m _ ho e he hb; omega)).2 (hed m _ ho e he hb)⟩
    refine ⟨fun h0 => absurd (h0 ▸ hready) (by simp), fun i hi => ?_⟩
    have him : i = m := by
      obtain ⟨h1, o, ho', hall⟩ := mem_ready.1 hi
      have hlt := lt_of_unlisted h1
      rcases Nat.lt_trichotomy i m with hlt' | he | hgt
      · have h2 := (hlst i (by omega)).2 hlt'
        simp [hlt] at h1 h2
        rw [h2] at h1; cases h1
      · exact he
      · have ho'' : l0[i]? = some o := by simpa using ho'
        have := (htail i o (by omega) ho'' m hgt).elim (fun hp => hpre m hp) (listed_anc hcl 16 o m hall)
        have := (hlst m hml).1 this
        omega
    subst him
    unfold wpOp
    simp only [List.getElem?_toArray, ho]
    rw [List.drop_eq_getElem_cons hml] at h
    simp only [wpList] at h
    have next : ∀ a' W', wpList P l0.toArray Q (l0.drop (i + 1)) a' W' → wpAny P .any l0.toArray Q fuel (listed.setIfInBounds i true) a' W' := by
      intro a' W' h'
      refine ih (i + 1) _ a' W' fuel (by omega) (by omega) (by omega) (by simpa using hsz) (fun j hj => getD_set_true (hpre j hj)) ?_ ?_ hed h'
      · intro j o hj hoj e he hb
        by_cases hij : i = j
        · subst hij
          rw [ho] at hoj
          cases hoj
          exact getD_set_true ((hlst e.on (by have := hed i _ ho e he hb; omega)).2 (hed i _ ho e he hb))
        · rw [getD_set_ne false hij] at hj
          exact getD_set_true (hcl j o hj hoj e he hb)
      · intro j hj
        by_cases hij : i = j
        · subst hij
          simp [show i < listed.size by omega]
        · rw [getD_set_ne false hij, hlst j hj]
          omega
    split
    · rename_i hw
      rw [if_pos hw] at h
      exact h.imp (Oper.wp_mono next) id
    · rename_i hw
      rw [if_neg hw] at h
      exact next _ _ h
structure OkSpec (pre : List Nat) (l : List Oper) (n size : Nat) : Prop where
  sel : ∀ (j : Nat) (o : Oper) cs b, l[j]? = some o → o.op ≠ .select cs b
  len : n ≤ l.length
  dst : ∀ (j : Nat) (o : Oper) (d : Tmp), l[j]? = some o → o.dst = some d → d < size
  edge : ∀ (i : Nat) (o : Oper), l[i]? = some o → ∀ e ∈ o.after, Region.binds .any e = true → e.on < i
  has : ∀ (i : Nat) (o : Oper), i < n → l[i]? = some o → o.dst.isSome = true
  look : ∀ (i : Nat) (o : Oper) (j : Nat) (oj : Oper) (d : Tmp), i < n → l[i]? = some o → l[j]? = some oj → oj.dst = some d → d ∈ o.looksAt l.toArray → j < i ∧ hasEdge o j = true
  one : ∀ (i : Nat) (o : Oper) (j : Nat) (oj : Oper) (d : Tmp), i < n → l[i]? = some o → l[j]? = some oj → oj.dst = some d → i ≠ j → o.dst ≠ some d
  tail : ∀ (i : Nat) (o : Oper), n ≤ i → l[i]? = some o → ∀ j, j < i → j ∈ pre ∨ ancB l 16 o j = true
theorem okFree_spec {n size : Nat} {l : List Oper} (h : okFree pre n size l = true) : OkSpec pre l n size := by
  simp only [okFree, Bool.and_eq_true, decide_eq_true_eq, List.all_eq_true, List.mem_range] at h
  obtain ⟨⟨⟨h1, h2⟩, h3⟩, h4⟩ := h
  have at_ : ∀ i o, l[i]? = some o → okOper pre l n i o = true := by
    intro i o ho
    have := h4 i (List.getElem?_eq_some_iff.1 ho).1
    rwa [ho] at this
  refine ⟨fun j o cs b hj => Region.noSelect_spec h1 j o cs b (by simpa using hj), h2, ?_, ?_, ?_, ?_, ?_, ?_⟩
  · intro j o d ho hd
    have := h3 o (List.mem_of_getElem? ho)
    simpa [hd] using this
  · intro i o ho e he hb
    have := at_ i o ho
    simp only [okOper, Bool.and_eq_true, List.all_eq_true, Bool.or_eq_true, Bool.not_eq_true', decide_eq_true_eq] at this
    have := this.1 e (Array.mem_toList_iff.2 he)
    rcases this with h | h
    · rw [h] at hb; cases hb
    · exact h
  · intro i o hi ho
    have := at_ i o ho
    simp only [okOper, Bool.and_eq_true, if_pos hi] at this
    exact this.2.1
  · intro i o j oj d hi ho hj hd hm
    have := at_ i o ho
    simp only [okOper, Bool.and_eq_true, if_pos hi, List.all_eq_true, List.mem_range] at this
    have := this.2.2 j (List.getElem?_eq_some_iff.1 hj).1
    simp only [hj, hd, Bool.and_eq_true, Bool.or_eq_true, Bool.not_eq_true', decide_eq_true_eq] at this
    rcases this.1 with h | h
    · have := List.contains_iff_mem.2 hm
      rw [h] at this; cases this
    · exact h
  · intro i o j oj d hi ho hj hd hne
    have := at_ i o ho
    simp only [okOper, Bool.and_eq_true, if_pos hi, List.all_eq_true, List.mem_range] at this
    have := this.2.2 j (List.getElem?_eq_some_iff.1 hj).1
    simp only [hj, hd, Bool.and_eq_true, Bool.or_eq_true, beq_iff_eq, bne_iff_ne, ne_eq] at this
    rcases this.2 with h | h
    · exact absurd h.symm hne
    · exact h
  · intro i o hi ho j hj
    have := at_ i o ho
    simp only [okOper, Bool.and_eq_true, if_neg (Nat.not_lt.2 hi), List.all_eq_true, List.mem_range] at this
    have := this.2 j hj
    rw [Bool.or_eq_true] at this
    exact this.imp (fun h => List.contains_iff_mem.1 h) id
/-- Where a region stands, whatever came first. -/
structure Midway (pre : List Nat) (l : List Oper) (specs : List FSpec) (R : World → World → Prop) (w0 : World) (a0 : Act) (listed : Array Bool) (a : Act) (W : World) : Prop where
  size : listed.size = l.length
  rel : R w0 W
  defers : a.defers = a0.defers
  tsize : a.tmps.size = a0.tmps.size
  closed : ∀ (i : Nat) (o : Oper), listed.getD i false = true → l[i]? = some o → ∀ e ∈ o.after, Region.binds .any e = true → listed.getD e.on false = true
  other : ∀ (t : Tmp), (∀ (j : Nat) (o : Oper), l[j]? = some o → listed.getD j false = true → o.dst ≠ some t) → a.tmps[t]? = a0.tmps[t]?
  fact : ∀ (j : Nat) (o : Oper) (d : Tmp) (s : FSpec), listed.getD j false = true → l[j]? = some o → o.dst = some d → specs[j]? = some s → s.ok W (a.tmps.getD d undef)
  late : ∀ (j : Nat), specs.length ≤ j → listed.getD j false = false
theorem Midway.value {specs : List FSpec} {a0 a : Act} {listed : Array Bool} {W : World} (m : Midway pre l0 specs R w0 a0 listed a W) {j : Nat} {o : Oper} {d : Tmp} (hj : listed.getD j false = true) (ho : l0[j]? = some o) (hd : o.dst = some d) :
    a.tmps.getD d undef = valuesOf l0 specs a j := by
  have hlt : j < specs.length := by
    rcases Nat.lt_or_ge j specs.length with h | h
    · exact h
    · rw [m.late j h] at hj; cases hj
  have hs : specs[j]? = some specs[j] := List.getElem?_eq_getElem hlt
  have := m.fact j o d _ hj ho hd hs
  generalize specs[j] = s at this hs
  cases s with
  | val c => simp only [FSpec.ok] at this; simp [valuesOf, hs, this]
  | pred Φ => simp [valuesOf, hs, ho, hd]
theorem Midway.tmp {specs : List FSpec} {a0 a : Act} {listed : Array Bool} {W : World} (m : Midway pre l0 specs R w0 a0 listed a W) (ok : OkSpec pre l0 specs.length a0.tmps.size) (k t : Nat) (hk : k ≤ specs.length)
    (h : ∀ (j : Nat) (oj : Oper), l0[j]? = some oj → oj.dst = some t → j < k ∧ listed.getD j false = true) : (frameAt a0 l0 (valuesOf l0 specs a) k).tmps[t]? = a.tmps[t]? := by
  by_cases hex : ∃ (j : Nat) (oj : Oper), l0[j]? = some oj ∧ oj.dst = some t
  · obtain ⟨j, oj, hj, hd⟩ := hex
    obtain ⟨hjk, hlj⟩ := h j oj hj hd
    have ht := ok.dst j oj t hj hd
    rw [frameAt_own a0 l0 _ k t j oj hjk hj hd ht fun i o' hne ho' hd' => by
      rcases Nat.lt_or_ge i specs.length with hi | hi
      · exact ok.one i o' j oj t hi ho' hj hd hne hd'
      · exact ok.one j oj i o' t (by omega) hj ho' hd' (Ne.symm hne) hd]
    rw [← m.value hlj hj hd]
    have : t < a.tmps.size := by rw [m.tsize]; exact ht
    simp [this]
  · rw [frameAt_other a0 l0 _ k t fun j o _ ho hd => hex ⟨j, o, ho, hd⟩, m.other t fun j o ho _ hd => hex ⟨j, o, ho, hd⟩]
theorem Midway.next {specs : List FSpec} {a0 a : Act} {listed : Array Bool} {W : World} (m : Midway pre l0 specs R w0 a0 listed a W) (ok : OkSpec pre l0 specs.length a0.tmps.size) (htr : ∀ a b c, R a b → R b c → R a c)
    (hst : ∀ s ∈ specs, ∀ W W' v, R W W' → s.ok W v → s.ok W' v) {i : Nat} {o : Oper} (hi : i < specs.length) (ho : l0[i]? = some o) (hedge : ∀ e ∈ o.after, Region.binds .any e = true → listed.getD e.on false = true) :
    ∀ W' v, R W W' → specs[i].ok W' v → Midway pre l0 specs R w0 a0 (listed.setIfInBounds i true) (a.put o.dst v) W' := by
  have hil : i < l0.length := (List.getElem?_eq_some_iff.1 ho).1
  have hlt : i < listed.size := by rw [m.size]; exact hil
  have hs : specs[i]? = some specs[i] := List.getElem?_eq_getElem hi
  intro W' v hR hv
  refine ⟨by simpa using m.size, htr _ _ _ m.rel hR, ?_, ?_, ?_, ?_, ?_, ?_⟩
  · rw [← m.defers]; cases o.dst <;> rfl
  · rw [← m.tsize]; cases hd : o.dst <;> simp [Act.put]
  · intro j oj hj hoj e he hb
    by_cases hij : i = j
    · subst hij
      rw [ho] at hoj; cases hoj
      exact getD_set_true (hedge e he hb)
    · rw [getD_set_ne false hij] at hj
      exact getD_set_true (m.closed j oj hj hoj e he hb)
  · intro t ht
    have hne : o.dst ≠ some t := ht i o ho (by simp [hlt])
    rw [← m.other t fun j oj hoj hj => ht j oj hoj (by
      by_cases hij : i = j
      · subst hij; simp [hlt]
      · rw [getD_set_ne false hij]; exact hj)]
    cases hd : o.dst with
    | none => rfl
    | some d =>
      have : d ≠ t := fun e => hne (by rw [hd, e])
      simp [Act.put, Array.getElem?_setIfInBounds_ne this]
  · intro j oj d s hj hoj hdj hsj
    by_cases hij : i = j
    · subst hij
      rw [ho] at hoj; cases hoj
      rw [hs] at hsj; cases hsj
      have hsz : d < a.tmps.size := by rw [m.tsize]; exact ok.dst i _ d ho hdj
      simpa [Act.put, hdj, hsz] using hv
    · rw [getD_set_ne false hij] at hj
      have hf := m.fact j oj d s hj hoj hdj hsj
      have hf := hst s (List.mem_of_getElem? hsj) _ _ _ hR hf
      have hnd : o.dst ≠ some d := ok.one i o j oj d hi ho hoj hdj hij
      cases hd : o.dst with
      | none => simpa [Act.put] using hf
      | some e =>
        have : e ≠ d := fun e' => hnd (by rw [hd, e'])
        simpa [Act.put, Array.getElem?_setIfInBounds_ne this] using hf
  · intro j hj
    rw [getD_set_ne false (show i ≠ j by omega)]
    exact m.late j hj
/-- One operation more, none of the tail. -/
theorem Midway.step {specs : List FSpec} {a0 a : Act} {listed : Array Bool} {W : World} (m : Midway pre l0 specs R w0 a0 listed a W) (ok : OkSpec pre l0 specs.length a0.tmps.size) (hrf : ∀ a, R a a) (htr : ∀ a b c, R a b → R b c → R a c)
    (hst : ∀ s ∈ specs, ∀ W W' v, R W W' → s.ok W v → s.ok W' v) (h : freeSteps P l0 R w0 Q 0 specs l0 a0 []) {i : Nat} (hi : i < specs.length) (hr : i ∈ Region.ready .any l0.toArray listed) :
    wpOp P l0.toArray Q i (fun a' W' => Midway pre l0 specs R w0 a0 (listed.setIfInBounds i true) a' W') a W := by
  obtain ⟨hun, o, ho', hedge⟩ := mem_ready.1 hr
  have ho : l0[i]? = some o := by simpa using ho'
  have hil : i < l0.length := (List.getElem?_eq_some_iff.1 ho).1
  have hlt : i < listed.size := by rw [m.size]; exact hil
  have hat := steps_at h (valuesOf l0 specs a) (valuesOf_fits l0 specs a) i (by omega)
  rw [List.drop_eq_getElem_cons hi, List.drop_eq_getElem_cons hil] at hat
  have hs : specs[i]? = some specs[i] := List.getElem?_eq_getElem hi
  have hoi : l0[i] = o := by
    have := List.getElem?_eq_getElem hil
    rw [ho] at this
    exact (Option.some.inj this).symm
  rw [hoi] at hat
  have hfacts : ∀ p ∈ factsAt specs (valuesOf l0 specs a) i, leans l0 o p.1 = true → p.2.1.ok W p.2.2 := by
    intro p hp hl
    obtain ⟨h1, h2, h3⟩ := mem_factsAt hp
    unfold leans at hl
    split at hl
    · rename_i d hd
      obtain ⟨oj, hj, hdj⟩ := Option.bind_eq_some_iff.1 hd
      have hlook := ok.look i o p.1 oj d hi ho hj hdj (List.contains_iff_mem.1 hl)
      have hlj : listed.getD p.1 false = true := listed_anc (l0 := l0) m.closed 0 o p.1 hedge hlook.2
      have := m.fact p.1 oj d p.2.1 hlj hj hdj h2
      rw [h3, ← m.value hlj hj hdj]
      exact this
    · cases hl
  have hsame : ∀ t, t ∈ o.looksAt l0.toArray → (frameAt a0 l0 (valuesOf l0 specs a) i).tmps[t]? = a.tmps[t]? := by
    intro t ht
    refine m.tmp ok i t (by omega) fun j oj hj hdj => ?_
    have hlook := ok.look i o j oj t hi ho hj hdj ht
    exact ⟨hlook.1, listed_anc (l0 := l0) m.closed 0 o j hedge hlook.2⟩
  have hev : execOp (frameAt a0 l0 (valuesOf l0 specs a) i).eval o = execOp a.eval o := eval_of_tmps o (fun cs b => ok.sel i o cs b ho) hsame
  have hwa : Region.wanted o (yielded l0.toArray (frameAt a0 l0 (valuesOf l0 specs a) i).tmps) = Region.wanted o (yielded l0.toArray a.tmps) := wanted_of_tmps o hsame
  -- what is left to show of each value
  have next : ∀ W' v, R W W' → specs[i].ok W' v → Midway pre l0 specs R w0 a0 (listed.setIfInBounds i true) (a.put o.dst v) W' := by
    intro W' v hR hv
    refine ⟨by simpa using m.size, htr _ _ _ m.rel hR, ?_, ?_, ?_, ?_, ?_, ?_⟩
    · rw [← m.defers]; cases o.dst <;> rfl
    · rw [← m.tsize]; cases hd : o.dst <;> simp [Act.put]
    · intro j oj hj hoj e he hb
      by_cases hij : i = j
      · subst hij
        rw [ho] at hoj; cases hoj
        exact getD_set_true (hedge e he hb)
      · rw [getD_set_ne false hij] at hj
        exact getD_set_true (m.closed j oj hj hoj e he hb)
    · intro t ht
      have hne : o.dst ≠ some t := ht i o ho (by simp [hlt])
      rw [← m.other t fun j oj hoj hj => ht j oj hoj (by
        by_cases hij : i = j
        · subst hij; simp [hlt]
        · rw [getD_set_ne false hij]; exact hj)]
      cases hd : o.dst with
      | none => rfl
      | some d =>
        have : d ≠ t := fun e => hne (by rw [hd, e])
        simp [Act.put, Array.getElem?_setIfInBounds_ne this]
    · intro j oj d s hj hoj hdj hsj
      by_cases hij : i = j
      · subst hij
        rw [ho] at hoj; cases hoj
        rw [hs] at hsj; cases hsj
        have hsz : d < a.tmps.size := by rw [m.tsize]; exact ok.dst i _ d ho hdj
        simpa [Act.put, hdj, hsz] using hv
      · rw [getD_set_ne false hij] at hj
        have hf := m.fact j oj d s hj hoj hdj hsj
        have hf := hst s (List.mem_of_getElem? hsj) _ _ _ hR hf
        have hnd : o.dst ≠ some d := ok.one i o j oj d hi ho hoj hdj hij
        cases hd : o.dst with
        | none => simpa [Act.put] using hf
        | some e =>
          have : e ≠ d := fun e' => hnd (by rw [hd, e'])
          simpa [Act.put, Array.getElem?_setIfInBounds_ne this] using hf
    · intro j hj
      rw [getD_set_ne false (show i ≠ j by omega)]
      exact m.late j hj
  unfold wpOp
  simp only [List.getElem?_toArray, ho]
  generalize hsp : specs[i] = s at hat next
  cases s with
  | val c =>
    simp only [freeSteps] at hat
    have hone := hat.1 W m.rel (factsHold_of hfacts)
    rw [hwa, hev] at hone
    split
    · rename_i hw
      rw [if_pos hw] at hone
      refine .inl (upon_of_gives hone fun w' v hv => next _ _ hv.1 hv.2)
    · rename_i hw
      rw [if_neg hw] at hone
      exact next W undef (hrf W) hone
  | pred Φ =>
    simp only [freeSteps] at hat
    have hone := hat.1 W m.rel (factsHold_of hfacts)
    rw [hwa, hev] at hone
    split
    · rename_i hw
      rw [if_pos hw] at hone
      refine .inl (upon_of_gives hone fun w' v hv => next _ _ hv.1 hv.2)
    · rename_i hw
      rw [if_neg hw] at hone
      exact next W undef (hrf W) hone
/-- All of the front is done, and nothing else: the frame is the lexical walk's. -/
theorem Midway.done {specs : List FSpec} {a0 a : Act} {listed : Array Bool} {W : World} (m : Midway pre l0 specs R w0 a0 listed a W) (ok : OkSpec pre l0 specs.length a0.tmps.size) (hall : ∀ j, j < specs.length → listed.getD j false = true) :
    a = frameAt a0 l0 (valuesOf l0 specs a) specs.length ∧ ∀ p ∈ factsAt specs (valuesOf l0 specs a) specs.length, p.2.1.ok W p.2.2 := by
  refine ⟨?_, fun p hp => ?_⟩
  · obtain ⟨tm, df⟩ := a
    have hdf := frameAt_defers a0 l0 (valuesOf l0 specs ⟨tm, df⟩) specs.length
    have htm : tm = (frameAt a0 l0 (valuesOf l0 specs ⟨tm, df⟩) specs.length).tmps := by
      refine Array.ext_getElem? fun t => ?_
      by_cases hex : ∃ (j : Nat) (oj : Oper), l0[j]? = some oj ∧ oj.dst = some t ∧ specs.length ≤ j
      · obtain ⟨j, oj, hj, hd, hge⟩ := hex
        by_cases hin : ∃ (i : Nat) (oi : Oper), l0[i]? = some oi ∧ oi.dst = some t ∧ i < specs.length
        · obtain ⟨i, oi, hi, hdi, hlt⟩ := hin
          exact absurd hdi (ok.one i oi j oj t hlt hi hj hd (by omega))
        · rw [frameAt_other a0 l0 _ _ t fun i o hi ho hd' => hin ⟨i, o, ho, hd', hi⟩]
          refine m.other t fun i o ho hl hd' => ?_
          rcases Nat.lt_or_ge i specs.length with h | h
          · exact hin ⟨i, o, ho, hd', h⟩
          · rw [m.late i h] at hl; cases hl
      · refine (m.tmp ok specs.length t (Nat.le_refl _) fun j oj hj hd => ?_).symm
        have hlt : j < specs.length := by
          rcases Nat.lt_or_ge j specs.length with h | h
          · exact h
          · exact absurd ⟨j, oj, hj, hd, h⟩ hex
        exact ⟨hlt, hall j hlt⟩
    have h1 : (frameAt a0 l0 (valuesOf l0 specs ⟨tm, df⟩) specs.length).defers = df := by rw [hdf, ← m.defers]
    generalize frameAt a0 l0 (valuesOf l0 specs ⟨tm, df⟩) specs.length = f at htm h1
    obtain ⟨ft, fd⟩ := f
    simp only at htm h1
    rw [htm, h1]
  · obtain ⟨h1, h2, h3⟩ := mem_factsAt hp
    have hil : p.1 < l0.length := by have := ok.len; omega
    have ho : l0[p.1]? = some l0[p.1] := List.getElem?_eq_getElem hil
    rw [h3]
    cases hd : l0[p.1].dst with
    | some d =>
      rw [← m.value (hall p.1 h1) ho hd]
      exact m.fact p.1 _ d _ (hall p.1 h1) ho hd h2
    | none =>
      have := ok.has p.1 _ h1 ho
      simp [hd] at this
theorem free_mono {md : Region.Mode} {ops : Array Oper} {listed : Array Bool} {i : Nat} (f : Nat → Bool) (hl : ∀ j, f j = true → listed.getD j true = true) (h : Region.free md ops (((List.range ops.size).map f).toArray) i = true) : Region.free md ops listed i = true := by
  unfold Region.free at *
  split at h
  · cases h
  · rw [List.all_eq_true] at *
    intro j hj
    have := h j hj
    have hjl : j < ops.size := List.mem_range.1 hj
    have e : (((List.range ops.size).map f).toArray).getD j true = f j := by simp [hjl]
    rw [e] at this
    cases h2 : listed.getD j true with
    | true => simp
    | false =>
      have h3 : f j = false := by
        cases h4 : f j with
        | false => rfl
        | true => rw [hl j h4] at h2; cases h2
      rw [h3] at this
      exact this
theorem free_any {specs : List FSpec} {a0 : Act} {k : Nat} {ok' : Oper} {d : Tmp} {v : Value} (hpk : pre = [k]) (hk : l0[k]? = some ok') (_hkd : ok'.dst = some d) (hks : specs[k]? = some (.val v)) (hns : Region.noSelect l0.toArray = true)
    (hf : Region.free .any l0.toArray (((List.range l0.toArray.size).map fun j => hasEdge ok' j).toArray) k = true) (hQ : ∀ c a w, Q (.panic c) (a.put ok'.dst v) w → Q (.panic c) a w)
    (hy : ∀ (a : Act) (W : World), R w0 W → (∀ j s oj dj, specs[j]? = some s → l0[j]? = some oj → oj.dst = some dj → hasEdge ok' j = true → s.ok W (a.tmps.getD dj undef)) → Yields P l0.toArray ok' v a)
    (ok : OkSpec pre l0 specs.length a0.tmps.size) (hrf : ∀ a, R a a) (htr : ∀ a b c, R a b → R b c → R a c)
    (hst : ∀ s ∈ specs, ∀ W W' v, R W W' → s.ok W v → s.ok W' v) (h : freeSteps P l0 R w0 Q 0 specs l0 a0 []) :
    ∀ (fuel : Nat) (listed : Array Bool) (a : Act) (W : World), left l0 listed ≤ fuel → Midway pre l0 specs R w0 a0 listed a W → wpAny P .any l0.toArray Q fuel listed a W := by
  have fin : ∀ (listed : Array Bool) (a : Act) (W : World), Midway pre l0 specs R w0 a0 listed a W → (∀ j, j < specs.length → listed.getD j false = true) → wpList P l0.toArray Q (l0.drop specs.length) a W := by
    intro listed a W m hall
    obtain ⟨he, hf⟩ := m.done ok hall
    have hat := steps_at h (valuesOf l0 specs a) (valuesOf_fits l0 specs a) specs.length (Nat.le_refl _)
    rw [List.drop_length] at hat
    simp only [freeSteps] at hat
    have := hat W m.rel (factsHold_of fun p hp _ => hf p hp)
    rwa [← he] at this
  have hkn : k < specs.length := (List.getElem?_eq_some_iff.1 hks).1
  have hpre : ∀ (listed : Array Bool), (∀ j, j < specs.length → listed.getD j false = true) → ∀ j ∈ pre, listed.getD j false = true := by
    intro listed hall j hj
    rw [hpk] at hj
    obtain rfl := List.mem_singleton.1 hj
    exact hall _ hkn
  have hlst : ∀ (listed : Array Bool) (a : Act) (W : World), Midway pre l0 specs R w0 a0 listed a W → (∀ j, j < specs.length → listed.getD j false = true) → ∀ i, i < l0.length → (listed.getD i false = true ↔ i < specs.length) := by
    intro listed a W m hall i hi
    constructor
    · intro hl
      rcases Nat.lt_or_ge i specs.length with h | h
      · exact h
      · rw [m.late i h] at hl; cases hl
    · exact hall i
  intro fuel
  induction fuel with
  | zero =>
    intro listed a W hl m
    have hnone : ∀ i, i < l0.length → listed.getD i true = true := by
      intro i hi
      have h0 : ((List.range l0.length).filter fun i => !listed.getD i true) = [] := List.eq_nil_of_length_eq_zero (by unfold left at hl; omega)
      have := List.filter_eq_nil_iff.1 h0 i (List.mem_range.2 hi)
      simpa using this
    have hall : ∀ j, j < specs.length → listed.getD j false = true := by
      intro j hj
      have h1 := hnone j (by have := ok.len; omega)
      rcases listed_cases (listed := listed) (i := j) (by rw [m.size]; have := ok.len; omega) with h2 | h2
      · exact h2
      · rw [h2] at h1; cases h1
    have hn : specs.length = l0.length := by
      rcases Nat.lt_or_ge specs.length l0.length with h1 | h1
      · have h2 := hnone specs.length h1
        have h3 := m.late specs.length (Nat.le_refl _)
        rcases listed_cases (listed := listed) (i := specs.length) (by rw [m.size]; exact h1) with h4 | h4
        · rw [h4] at h3; cases h3
        · rw [h4] at h2; cases h2
      · have := ok.len; omega
    exact tail_forced ok.tail 0 specs.length listed a W 0 (Nat.le_refl _) hn (Nat.le_refl _) m.size (hpre _ hall) m.closed (hlst _ _ _ m hall) ok.edge (fin _ _ _ m hall)
  | succ fuel ih =>
    intro listed a W hl m
    by_cases hall : ∀ j, j < specs.length → listed.getD j false = true
    · refine tail_forced ok.tail (l0.length - specs.length) specs.length listed a W (fuel + 1) (Nat.le_refl _) (by have := ok.len; omega) ?_ m.size (hpre _ hall) m.closed (hlst _ _ _ m hall) ok.edge (fin _ _ _ m hall)
      have := left_ge (l := l0) (listed := listed) (n := specs.length) fun i h1 h2 => by
        have := m.late i h1
        have hlt : i < listed.size := by rw [m.size]; exact h2
        simpa [hlt] using this
      omega
    · by_cases hrk : k ∈ Region.ready .any l0.toArray listed
      · obtain ⟨hun, o, ho', hedge⟩ := mem_ready.1 hrk
        have ho : l0[k]? = some o := by simpa using ho'
        rw [hk] at ho; cases ho
        have hed : ∀ j, hasEdge ok' j = true → listed.getD j false = true := fun j he => by
          obtain ⟨e, he1, he2⟩ := List.any_eq_true.1 he
          simp only [Bool.and_eq_true, beq_iff_eq] at he2
          have := hedge e (Array.mem_toList_iff.1 he1) he2.1
          rwa [he2.2] at this
        have hle : ∀ j, hasEdge ok' j = true → listed.getD j true = true := fun j he => by
          have h1 := hed j he
          rcases Nat.lt_or_ge j listed.size with h2 | h2
          · simpa [h2] using h1
          · simp [h2]
        have hyy : Yields P l0.toArray ok' v a := hy a W m.rel fun j s oj dj hs hj hd he => by
          exact m.fact j oj dj s (hed j he) hj hd hs
        refine wpAny_take (i := k) (by simpa using hk) hns (free_mono _ hle hf) (List.contains_iff_mem.2 hrk) hQ hyy ?_
        have hil : k < l0.length := (List.getElem?_eq_some_iff.1 hk).1
        have hsk : specs[k] = .val v := by
          have := List.getElem?_eq_getElem hkn
          rw [hks] at this
          exact (Option.some.inj this).symm
        exact ih _ _ W (by have := left_set hil hun; omega) (m.next ok htr hst hkn hk hedge W v (hrf W) (by rw [hsk]; rfl))
      have hkl : ∀ i o, specs.length ≤ i → l0[i]? = some o → (∀ e ∈ o.after, Region.binds .any e = true → listed.getD e.on false = true) → ∀ j ∈ pre, listed.getD j false = true := by
        intro i o hi ho hedge j hj
        rw [hpk] at hj
        obtain rfl := List.mem_singleton.1 hj
        have hil : j < l0.length := (List.getElem?_eq_some_iff.1 hk).1
        rcases listed_cases (listed := listed) (i := j) (by rw [m.size]; exact hil) with h1 | h1
        · exact h1
        · refine absurd (mem_ready.2 ⟨h1, ok', by simpa using hk, fun e he hb => ?_⟩) hrk
          have hlt := ok.edge j ok' hk e he hb
          have := ok.tail i o hi ho e.on (by omega)
          rcases this with h2 | h2
          · rw [hpk] at h2
            have := List.mem_singleton.1 h2
            omega
          · exact listed_anc m.closed 16 o e.on hedge h2
      refine ⟨fun h0 => ?_, fun i hi => ?_⟩
      · refine absurd (fun j => ?_) hall
        induction j using Nat.strongRecOn with
        | _ j ihj =>
          intro hj
          have hjl : j < l0.length := by have := ok.len; omega
          have hoj : l0[j]? = some l0[j] := List.getElem?_eq_getElem hjl
          rcases listed_cases (listed := listed) (i := j) (by rw [m.size]; exact hjl) with h1 | h1
          · exact h1
          · have hm : j ∈ Region.ready .any l0.toArray listed := mem_ready.2 ⟨h1, l0[j], by simp [hjl], fun e he hb => by
              have := ok.edge j _ hoj e he hb
              exact ihj e.on this (by omega)⟩
            rw [h0] at hm
            cases hm
      · obtain ⟨hun, o, ho', hedge⟩ := mem_ready.1 hi
        have hil : i < l0.length := by have := lt_of_unlisted hun; rw [m.size] at this; exact this
        have hn : i < specs.length := by
          rcases Nat.lt_or_ge i specs.length with h1 | h1
          · exact h1
          · exact absurd (fun j hj => (ok.tail i o h1 (by simpa using ho') j (by omega)).elim (fun hp => hkl i o h1 (by simpa using ho') hedge j hp) (listed_anc m.closed 16 o j hedge)) hall
        exact wpOp_mono (fun a' W' m' => ih _ a' W' (by have := left_set hil hun; omega) m') (m.step ok hrf htr hst h hn hi)
theorem region_late {id : Nat} {l : List Oper} {a : Act} {w : World} (R : World → World → Prop) (specs : List FSpec) (k : Nat) (ok : Oper) (d : Tmp) (v : Value) (hm : P.follows .mixedOrders = true) (hok : okFree [k] specs.length a.tmps.size l = true)
    (hk : l[k]? = some ok) (hd : ok.dst = some d) (hs : specs[k]? = some (.val v)) (hns : Region.noSelect l.toArray = true)
    (hf : Region.free .any l.toArray (((List.range l.toArray.size).map fun j => hasEdge ok j).toArray) k = true) (hQ : ∀ c a w, Q (.panic c) (a.put ok.dst v) w → Q (.panic c) a w)
    (hy : ∀ (a : Act) (W : World), R w W → (∀ j s oj dj, specs[j]? = some s → l[j]? = some oj → oj.dst = some dj → hasEdge ok j = true → s.ok W (a.tmps.getD dj undef)) → Yields P l.toArray ok v a)
    (hrf : ∀ a, R a a) (htr : ∀ a b c, R a b → R b c → R a c) (hdr : ∀ a, R a a.drew) (hst : ∀ s ∈ specs, ∀ W W' v, R W W' → s.ok W v → s.ok W' v)
    (h : freeSteps P l R w Q 0 specs l a []) : (Code.region id l.toArray true).wp P Q a w := by
  refine wp_region_any hm ?_
  have hget : ∀ i : Nat, (Array.replicate l.toArray.size false).getD i false = false := by
    intro i
    rw [Array.getD_eq_getD_getElem?, Array.getElem?_replicate]
    split <;> rfl
  refine free_any rfl hk hd hs hns hf hQ hy (okFree_spec hok) hrf htr hst h _ _ _ _ ?_ ⟨by simp, hdr w, rfl, rfl, ?_, ?_, ?_, ?_⟩
  · unfold left
    refine Nat.le_trans (List.length_filter_le _ _) ?_
    simp
  · intro i o hi
    rw [hget] at hi; cases hi
  · intro t _; rfl
  · intro j o d s hj
    rw [hget] at hj; cases hj
  · intro j _
    exact hget j
end
end Go.Proofs.YtplhndmncjoghaaGreatDoor.Late
namespace Go.Proofs.YtplhndmncjoghaaGreatDoor
set_option maxRecDepth 100000
open Go Go.RowKit Go.Proofs
/-- A value of api.Frac with limbs of whatever number. -/
def RawF (w : World) (v : Value) : Prop :=
  ∃ b1 a1 c1 b2 a2 c2, ∃ l1 l2 : List Nat, v = .agg #[.bool b1, .slice a1 l1.length c1, .bool b2, .slice a2 l2.length c2] ∧ l1.length ≤ 140737488355328 ∧ l2.length ≤ 140737488355328 ∧
    AnyR w (.agg #[.bool b1, .slice a1 l1.length c1]) b1 l1 ∧ AnyR w (.agg #[.bool b2, .slice a2 l2.length c2]) b2 l2
theorem RawF.opened {w : World} {v : Value} (h : RawF w v) : ∃ b1 a1 n1 c1 b2 a2 n2 c2, v = .agg #[.bool b1, .slice a1 n1 c1, .bool b2, .slice a2 n2 c2] ∧ n1 ≤ 140737488355328 ∧ n2 ≤ 140737488355328 ∧
    (n1 ≤ 4294967296 → n2 ≤ 4294967296 → ∃ o, AnyF w (.agg #[.bool b1, .slice a1 n1 c1, .bool b2, .slice a2 n2 c2]) o) := by
  obtain ⟨b1, a1, c1, b2, a2, c2, l1, l2, h0, h1, h2, h3, h4⟩ := h
  exact ⟨b1, a1, _, c1, b2, a2, _, c2, h0, h1, h2, fun g1 g2 => ⟨_, b1, l1, b2, l2, ⟨a1, c1, a2, c2, rfl, g1, g2, h3, h4⟩, rfl⟩⟩
theorem lf_one {w : World} {g : Nat} {b1 b2 : Bool} {a1 a2 : Option Addr} {n1 c1 n2 c2 : Nat} {o : Option Rat} {T : Nat} (hg : w.heap[g]? = some (.cells #[.bool b1, .slice a1 n1 c1, .bool b2, .slice a2 n2 c2] T (0, 0)))
    (h : AnyF w (.agg #[.bool b1, .slice a1 n1 c1, .bool b2, .slice a2 n2 c2]) o) : LF w g [o] := by
  intro k hk
  obtain rfl : k = 0 := by simpa using hk
  have := row4_cells hg
  exact ⟨_, _, _, _, _, _, _, _, this.1, this.2.1, this.2.2.1, this.2.2.2, h⟩
theorem fst_any {ss : List Fresh.FSpec} (o : Option Rat) (h : Fresh.StableAll Ext ss) : Fresh.StableAll Ext (.pred (fun W v => AnyF W v o) :: ss) := ⟨fun _ _ _ e h => AnyF.ext h e, h⟩
theorem fst_pair {ss : List Fresh.FSpec} (o : Option Rat) (c : Int) (h : Fresh.StableAll Ext ss) : Fresh.StableAll Ext (.pred (PairF o c) :: ss) := ⟨fun _ _ _ e h => by obtain ⟨x, h1, h2⟩ := h; exact ⟨x, h1, h2.ext e⟩, h⟩
theorem st_var {ss : List FSpec} (b : Nat) (cs : Array Value) (T : TypeId) (h : StableAll Ext ss) : StableAll Ext (.pred (VarAt b cs T) :: ss) := ⟨fun _ _ _ e h => VarAt.ext h e, h⟩
theorem whole_one : Rat.divInt 1 1 = 1 := by kernel_rfl
/-- What Pell's law rests on: where nothing is refused, the difference is one. -/
theorem pell_plain {n : Int} {o : Option Rat} (hn : 1 ≤ n) (e1 : chE n o = 0) (e2 : chE (n - 1) o = 0) (e3 : opE (fun x y => x * y) (chT n o) (chT n o) = 0) (e4 : opE (fun x y => x * y) (chU (n - 1) o) (chU (n - 1) o) = 0)
    (e5 : opE (fun x y => x * y) o o = 0) (e6 : opE (fun x y => x - y) (opO (fun x y => x * y) o o) (some 1) = 0) (e7 : opE (fun x y => x * y) (opO (fun x y => x - y) (opO (fun x y => x * y) o o) (some 1)) (opO (fun x y => x * y) (chU (n - 1) o) (chU (n - 1) o)) = 0)
    (e8 : opE (fun x y => x - y) (opO (fun x y => x * y) (chT n o) (chT n o)) (opO (fun x y => x * y) (opO (fun x y => x - y) (opO (fun x y => x * y) o o) (some 1)) (opO (fun x y => x * y) (chU (n - 1) o) (chU (n - 1) o))) = 0) :
    opO (fun x y => x - y) (opO (fun x y => x * y) (chT n o) (chT n o)) (opO (fun x y => x * y) (opO (fun x y => x - y) (opO (fun x y => x * y) o o) (some 1)) (opO (fun x y => x * y) (chU (n - 1) o) (chU (n - 1) o))) = some 1 := by
  obtain ⟨x, rfl, _, _, _, h1⟩ := chE_ok e1
  obtain ⟨x', hx', _, _, h2, _⟩ := chE_ok e2
  cases hx'
  rw [h1] at e3 e8 ⊢
  rw [h2] at e4 e7 e8 ⊢
  obtain ⟨_, _, q1, q2, h3⟩ := opE_ok e3
  cases q1
  cases q2
  obtain ⟨_, _, q1, q2, h4⟩ := opE_ok e4
  cases q1
  cases q2
  obtain ⟨_, _, q1, q2, h5⟩ := opE_ok e5
  cases q1
  cases q2
  rw [h5] at e6 e7 e8 ⊢
  obtain ⟨_, _, q1, q2, h6⟩ := opE_ok e6
  cases q1
  cases q2
  rw [h3] at e8 ⊢
  rw [h4, h6] at e7 e8 ⊢
  obtain ⟨_, _, q1, q2, h7⟩ := opE_ok e7
  cases q1
  cases q2
  rw [h7] at e8 ⊢
  obtain ⟨_, _, q1, q2, h8⟩ := opE_ok e8
  cases q1
  cases q2
  rw [h8]
  obtain ⟨k, rfl⟩ : ∃ k : Nat, n = ((k + 1 : Nat) : Int) := ⟨(n - 1).toNat, by omega⟩
  have hp := cheb_pell x k
  rw [show ((k + 1 : Nat) : Int).toNat = k + 1 by omega, show (((k + 1 : Nat) : Int) - 1).toNat = k by omega]
  rw [hp]
theorem pell_plain2 {n m NM : Int} {o : Option Rat} (hn : 0 ≤ n) (hm : 0 ≤ m) (hNM : n * m = NM) (e1 : chE n o = 0) (e9 : chE NM o = 0) (e10 : chE m (chT n o) = 0) : ∃ y, chT NM o = some y ∧ chT m (chT n o) = some y := by
  obtain ⟨x, rfl, _, _, _, h1⟩ := chE_ok e1
  obtain ⟨x', hx', _, _, _, h2⟩ := chE_ok e9
  cases hx'
  rw [h1] at e10 ⊢
  obtain ⟨x', hx', _, _, _, h3⟩ := chE_ok e10
  cases hx'
  refine ⟨_, h2, ?_⟩
  rw [h3]
  obtain ⟨a, rfl⟩ := Int.eq_ofNat_of_zero_le hn
  obtain ⟨b, rfl⟩ := Int.eq_ofNat_of_zero_le hm
  have e : NM.toNat = a * b := by
    rw [← hNM, ← Int.natCast_mul]
    rfl
  have := (chebT_mul x a b).1
  rw [e]
  show some (chebT b (chebT a x)) = _
  rw [this]
end Go.Proofs.YtplhndmncjoghaaGreatDoor
namespace Go.Proofs.YtplhndmncjoghaaGreatDoor
set_option maxRecDepth 100000
open Go Go.ChangeShapes Go.WideShapes Go.ChangeAt Go.RowKit Go.Joins Go.Deep
theorem cells_u32 : Tryz.prog.cellsOf 137 = 1 := by kernel_rfl
theorem bytes_u32 : Tryz.prog.bytesOf 137 = 4 := by kernel_rfl
theorem cells_bool : Tryz.prog.cellsOf 4 = 1 := by kernel_rfl
theorem cells_mag : Tryz.prog.cellsOf 23 = 1 := by kernel_rfl
theorem cells_int : Tryz.prog.cellsOf 25 = 2 := by kernel_rfl
theorem cells_frac : Tryz.prog.cellsOf 27 = 4 := by kernel_rfl
theorem cells_mat : Tryz.prog.cellsOf 212 = 16 := by kernel_rfl
theorem cells_ray : Tryz.prog.cellsOf 168 = 8 := by kernel_rfl
theorem reach_le : reachBytes ≤ 140737488355328 := Nat.le_trans (Nat.le_of_lt reachBytes_lt) (Nat.le_of_eq (by kernel_rfl))
section
variable {H : Type} {enc : TypeId × Value → H} {w : World} {base : Nat} {spare : Nat → Bool} {held : Bool}
theorem open_mag {fuel : Nat} {cs : List Value} {x : DataW H × List MemPlace} (h : DataW.trod enc Tryz.prog w base spare held fuel 23 cs = some x) :
    ∃ (a : Option Addr) (c : Nat) (l : List Nat), cs = [.slice a l.length c] ∧ OkL l ∧ l.length ≤ c ∧ Row w a (limV l) ∧ ∀ M, (∀ k ∈ x.1.weights Tryz.prog 23, k ≤ M) → l.length * 4 ≤ M := by
  rcases open_slice Tryz.underlying23 h with ⟨rfl, _⟩ | ⟨a, len, cap, m, n, D, Pl, rfl, hb, hl, hm, hmm, rfl, hi⟩
  · exact ⟨none, 0, [], rfl, okL_nil, Nat.le_refl _, row_nil w, fun M _ => by simp⟩
  · have hlm : len ≤ m := by rw [hmm]; split <;> omega
    have hcell : ∀ i, i < len → ∃ b : Nat, b < 4294967296 ∧ w.cell? (a.add i) = some (.int .u32 (b : Int)) := by
      intro i hlt
      obtain ⟨cs', h1, h2⟩ := hi i (by omega)
      obtain ⟨b, rfl, _, hwf⟩ := DataW.trod_int Tryz.underlying137 h2
      rw [cells_u32] at h1
      obtain ⟨_, _, hat⟩ := World.cells?_some h1
      have := hat 0 (by omega)
      have hb2 : 0 ≤ b ∧ b ≤ 4294967295 := by
        have h : IntKind.u32.min ≤ b ∧ b ≤ IntKind.u32.max := by simpa [Lit.wf] using hwf
        have e1 : IntKind.u32.min = 0 := rfl
        have e2 : IntKind.u32.max = 4294967295 := rfl
        omega
      obtain ⟨b', rfl⟩ := Int.eq_ofNat_of_zero_le hb2.1
      refine ⟨b', by omega, ?_⟩
      simpa [Addr.add] using this
    have hlist : (List.range len).map (fun i => match w.cell? (a.add i) with | some (.int _ b) => b.toNat | _ => 0) = (List.range len).map (fun i => match w.cell? (a.add i) with | some (.int _ b) => b.toNat | _ => 0) := rfl
    refine ⟨some a, cap, (List.range len).map (fun i => match w.cell? (a.add i) with | some (.int _ b) => b.toNat | _ => 0), by simp, ?_, by simpa using hl, ?_, ?_⟩
    · intro y hy
      obtain ⟨i, hi', rfl⟩ := List.mem_map.1 hy
      obtain ⟨b, hb1, hb2⟩ := hcell i (List.mem_range.1 hi')
      simp only [hb2]
      simpa using hb1
    · refine ⟨a.block, a.off, fun hne => ?_, fun j hj => ?_⟩
      · have h0 : 0 < len := by
          rcases Nat.eq_zero_or_pos len with h | h
          · subst h; simp [limV] at hne
          · exact h
        obtain ⟨b, _, hb'⟩ := hcell 0 h0
        obtain ⟨bl, of, sp⟩ := a
        have : sp = none := by simpa [Addr.add] using World.cell?_spot hb'
        subst this
        rfl
      · have hj' : j < len := by simpa [limV] using hj
        obtain ⟨b, _, hb'⟩ := hcell j hj'
        have hadd : a.add j = ⟨a.block, a.off + j, none⟩ := by
          obtain ⟨bl, of, sp⟩ := a
          have : sp = none ∨ j ≠ 0 := by
            rcases Nat.eq_zero_or_pos j with h | h
            · subst h
              exact .inl (by simpa [Addr.add] using World.cell?_spot hb')
            · exact .inr (by omega)
          unfold Addr.add
          split
          · rename_i h
            rcases this with h2 | h2
            · simp [h, h2]
            · exact absurd h h2
          · rfl
        rw [← hadd, hb']
        simp [limV, hj', hb']
    · intro M hM
      have := hM ((len + (m - len)) * Tryz.prog.bytesOf 137) (by simp [DataW.weights, Tryz.underlying23])
      rw [bytes_u32] at this
      simp only [List.length_map, List.length_range]
      omega
theorem list_two {α : Type} {l : List α} (h : l.length = 2) : ∃ a b, l = [a, b] := by
  match l, h with
  | [a, b], _ => exact ⟨a, b, rfl⟩
theorem list_four {α : Type} {l : List α} (h : l.length = 4) : ∃ a b c d, l = [a, b, c, d] := by
  match l, h with
  | [a, b, c, d], _ => exact ⟨a, b, c, d, rfl⟩
theorem open_int2 {fuel : Nat} {cs : List Value} {x : DataW H × List MemPlace} (h : DataW.trod enc Tryz.prog w base spare held fuel 25 cs = some x) :
    ∃ (b : Bool) (a : Option Addr) (c : Nat) (l : List Nat), cs = [.bool b, .slice a l.length c] ∧ OkL l ∧ l.length ≤ c ∧ Row w a (limV l) ∧ ∀ M, (∀ k ∈ x.1.weights Tryz.prog 25, k ≤ M) → l.length * 4 ≤ M := by
  obtain ⟨xs, n, _, rfl, hlen, hxl, hf⟩ := DataW.trod_struct Tryz.underlying25 h
  rw [cells_int] at hlen
  obtain ⟨c0, c1, rfl⟩ := list_two hlen
  obtain ⟨y0, y1, rfl⟩ := list_two hxl
  have h0 : DataW.trod enc Tryz.prog w base spare held n 4 (([c0, c1].drop 0).take (Tryz.prog.cellsOf 4)) = some y0 := hf 0 _ rfl
  have h1 : DataW.trod enc Tryz.prog w base spare held n 23 (([c0, c1].drop 1).take (Tryz.prog.cellsOf 23)) = some y1 := hf 1 _ rfl
  rw [cells_bool] at h0
  rw [cells_mag] at h1
  obtain ⟨b, hb, _⟩ := DataW.trod_bool Tryz.underlying4 h0
  obtain ⟨a, c, l, hs, hk, hc, hr, hM⟩ := open_mag h1
  simp at hb hs
  subst hb hs
  refine ⟨b, a, c, l, rfl, hk, hc, hr, fun M h => hM M fun k hk => h k ?_⟩
  simp [DataW.weights, Tryz.underlying25, DataW.weightsEach, hk]
theorem open_frac4 {fuel : Nat} {cs : List Value} {x : DataW H × List MemPlace} (h : DataW.trod enc Tryz.prog w base spare held fuel 27 cs = some x) :
    ∃ v1 v2 v3 v4, cs = [v1, v2, v3, v4] ∧ ∀ M, (∀ k ∈ x.1.weights Tryz.prog 27, k ≤ M) → M ≤ 140737488355328 → RawF w (.agg #[v1, v2, v3, v4]) := by
  obtain ⟨xs, n, _, rfl, hlen, hxl, hf⟩ := DataW.trod_struct Tryz.underlying27 h
  rw [cells_frac] at hlen
  obtain ⟨c0, c1, c2, c3, rfl⟩ := list_four hlen
  obtain ⟨y0, y1, rfl⟩ := list_two hxl
  have h0 : DataW.trod enc Tryz.prog w base spare held n 25 (([c0, c1, c2, c3].drop 0).take (Tryz.prog.cellsOf 25)) = some y0 := hf 0 _ rfl
  have h1 : DataW.trod enc Tryz.prog w base spare held n 25 (([c0, c1, c2, c3].drop 2).take (Tryz.prog.cellsOf 25)) = some y1 := hf 1 _ rfl
  rw [cells_int] at h0 h1
  obtain ⟨b1, a1, m1, l1, hs1, hk1, hc1, hr1, hM1⟩ := open_int2 h0
  obtain ⟨b2, a2, m2, l2, hs2, hk2, hc2, hr2, hM2⟩ := open_int2 h1
  simp at hs1 hs2
  obtain ⟨rfl, rfl⟩ := hs1
  obtain ⟨rfl, rfl⟩ := hs2
  refine ⟨_, _, _, _, rfl, fun M h hM => ?_⟩
  have g1 := hM1 M fun k hk => h k (by simp [DataW.weights, Tryz.underlying27, DataW.weightsEach, hk])
  have g2 := hM2 M fun k hk => h k (by simp [DataW.weights, Tryz.underlying27, DataW.weightsEach, hk])
  exact ⟨b1, a1, m1, b2, a2, m2, l1, l2, rfl, by omega, by omega, ⟨a1, m1, rfl, hk1, hc1, hr1⟩, ⟨a2, m2, rfl, hk2, hc2, hr2⟩⟩
set_option maxRecDepth 100000 in
/-- A fraction that came in. -/
theorem rawF_of {r : Reach} {b0 : Nat} {v : Value} {d : DataW H} {p : List MemPlace} (hv : Value.okWide Tryz.prog w r b0 27 v) (h : DataW.Trod enc Tryz.prog w base spare held 27 v d p)
    (hM : ∀ k ∈ d.weights Tryz.prog 27, k ≤ reachBytes) : RawF w v := by
  obtain ⟨cs, rfl, _⟩ := okWide_struct Tryz.underlying27 hv
  obtain ⟨fuel, hh⟩ := h
  obtain ⟨v1, v2, v3, v4, hcs, hR⟩ := open_frac4 hh
  have : cs = #[v1, v2, v3, v4] := by
    apply Array.toList_inj.1
    simpa [Value.cells] using hcs
  subst this
  exact hR reachBytes hM reach_le
end
end Go.Proofs.YtplhndmncjoghaaGreatDoor
namespace Go.Proofs.YtplhndmncjoghaaGreatDoor
set_option maxRecDepth 100000
open Go Go.ChangeShapes Go.WideShapes Go.ChangeAt Go.RowKit Go.Joins Go.Deep
theorem cells_elem : Tryz.prog.cellsOf 29 = 9 := by kernel_rfl
theorem cells_part : Tryz.prog.cellsOf 31 = 11 := by kernel_rfl
theorem cells_op : Tryz.prog.cellsOf 33 = 17 := by kernel_rfl
theorem cells_kind : Tryz.prog.cellsOf 22 = 1 := by kernel_rfl
theorem cells_u8 : Tryz.prog.cellsOf 5 = 1 := by kernel_rfl
theorem cells_str : Tryz.prog.cellsOf 9 = 1 := by kernel_rfl
theorem cells_int64 : Tryz.prog.cellsOf 3 = 1 := by kernel_rfl
theorem list_3 {α : Type} {l : List α} (h : l.length = 3) : ∃ c0 c1 c2, l = [c0, c1, c2] := by
  match l, h with
  | [c0, c1, c2], _ => exact ⟨c0, c1, c2, rfl⟩
theorem list_9 {α : Type} {l : List α} (h : l.length = 9) : ∃ c0 c1 c2 c3 c4 c5 c6 c7 c8, l = [c0, c1, c2, c3, c4, c5, c6, c7, c8] := by
  match l, h with
  | [c0, c1, c2, c3, c4, c5, c6, c7, c8], _ => exact ⟨c0, c1, c2, c3, c4, c5, c6, c7, c8, rfl⟩
theorem list_11 {α : Type} {l : List α} (h : l.length = 11) : ∃ c0 c1 c2 c3 c4 c5 c6 c7 c8 c9 c10, l = [c0, c1, c2, c3, c4, c5, c6, c7, c8, c9, c10] := by
  match l, h with
  | [c0, c1, c2, c3, c4, c5, c6, c7, c8, c9, c10], _ => exact ⟨c0, c1, c2, c3, c4, c5, c6, c7, c8, c9, c10, rfl⟩
theorem list_17 {α : Type} {l : List α} (h : l.length = 17) : ∃ c0 c1 c2 c3 c4 c5 c6 c7 c8 c9 c10 c11 c12 c13 c14 c15 c16, l = [c0, c1, c2, c3, c4, c5, c6, c7, c8, c9, c10, c11, c12, c13, c14, c15, c16] := by
  match l, h with
  | [c0, c1, c2, c3, c4, c5, c6, c7, c8, c9, c10, c11, c12, c13, c14, c15, c16], _ => exact ⟨c0, c1, c2, c3, c4, c5, c6, c7, c8, c9, c10, c11, c12, c13, c14, c15, c16, rfl⟩
/-- An op as data. -/
def RawOp (w : World) (v : Value) : Prop := ∃ (kd : Int) (pn : ByteArray) (pk : Int) (p1 p2 p3 p4 q1 q2 q3 q4 : Value) (co : Int) (nm : ByteArray) (u1 u2 u3 u4 : Value),
  v = .agg #[.int .u8 kd, .string pn, .int .u8 pk, p1, p2, p3, p4, q1, q2, q3, q4, .int .i64 co, .string nm, u1, u2, u3, u4] ∧ pn.size ≤ 140737488355328 ∧ nm.size ≤ 140737488355328 ∧ RawF w (.agg #[p1, p2, p3, p4]) ∧ RawF w (.agg #[q1, q2, q3, q4]) ∧ RawF w (.agg #[u1, u2, u3, u4])
section
variable {H : Type} {enc : TypeId × Value → H} {w : World} {base : Nat} {spare : Nat → Bool} {held : Bool}
theorem open_elem {fuel : Nat} {cs : List Value} {x : DataW H × List MemPlace} (h : DataW.trod enc Tryz.prog w base spare held fuel 29 cs = some x) :
    ∃ (kd : Int) (p1 p2 p3 p4 q1 q2 q3 q4 : Value), cs = [.int .u8 kd, p1, p2, p3, p4, q1, q2, q3, q4] ∧ ∀ M, (∀ k ∈ x.1.weights Tryz.prog 29, k ≤ M) → M ≤ 140737488355328 → RawF w (.agg #[p1, p2, p3, p4]) ∧ RawF w (.agg #[q1, q2, q3, q4]) := by
  obtain ⟨xs, n, _, rfl, hlen, hxl, hf⟩ := DataW.trod_struct Tryz.underlying29 h
  rw [cells_elem] at hlen
  obtain ⟨c0, c1, c2, c3, c4, c5, c6, c7, c8, rfl⟩ := list_9 hlen
  obtain ⟨y0, y1, y2, rfl⟩ := list_3 hxl
  have h0 : DataW.trod enc Tryz.prog w base spare held n 22 (([c0, c1, c2, c3, c4, c5, c6, c7, c8].drop 0).take (Tryz.prog.cellsOf 22)) = some y0 := hf 0 _ rfl
  have h1 : DataW.trod enc Tryz.prog w base spare held n 27 (([c0, c1, c2, c3, c4, c5, c6, c7, c8].drop 1).take (Tryz.prog.cellsOf 27)) = some y1 := hf 1 _ rfl
  have h2 : DataW.trod enc Tryz.prog w base spare held n 27 (([c0, c1, c2, c3, c4, c5, c6, c7, c8].drop 5).take (Tryz.prog.cellsOf 27)) = some y2 := hf 2 _ rfl
  rw [cells_kind] at h0
  rw [cells_frac] at h1 h2
  obtain ⟨kd, e0, _, _⟩ := DataW.trod_int Tryz.underlying22 h0
  have e0' : [c0] = [.int .u8 kd] := e0
  simp only [List.cons.injEq, and_true] at e0'
  subst e0'
  obtain ⟨v1, v2, v3, v4, e1, f1⟩ := open_frac4 h1
  have e1' : [c1, c2, c3, c4] = [v1, v2, v3, v4] := e1
  simp only [List.cons.injEq, and_true] at e1'
  obtain ⟨rfl, rfl, rfl, rfl⟩ := e1'
  obtain ⟨v5, v6, v7, v8, e2, f2⟩ := open_frac4 h2
  have e2' : [c5, c6, c7, c8] = [v5, v6, v7, v8] := e2
  simp only [List.cons.injEq, and_true] at e2'
  obtain ⟨rfl, rfl, rfl, rfl⟩ := e2'
  exact ⟨kd, _, _, _, _, _, _, _, _, rfl, fun M h hM => ⟨f1 M (fun k hk => h k (by simp [DataW.weights, Tryz.underlying29, DataW.weightsEach, hk])) hM, f2 M (fun k hk => h k (by simp [DataW.weights, Tryz.underlying29, DataW.weightsEach, hk])) hM⟩⟩
theorem open_part {fuel : Nat} {cs : List Value} {x : DataW H × List MemPlace} (h : DataW.trod enc Tryz.prog w base spare held fuel 31 cs = some x) :
    ∃ (pn : ByteArray) (kd : Int) (p1 p2 p3 p4 q1 q2 q3 q4 : Value) (co : Int), cs = [.string pn, .int .u8 kd, p1, p2, p3, p4, q1, q2, q3, q4, .int .i64 co] ∧ ∀ M, (∀ k ∈ x.1.weights Tryz.prog 31, k ≤ M) → M ≤ 140737488355328 → pn.size ≤ M ∧ RawF w (.agg #[p1, p2, p3, p4]) ∧ RawF w (.agg #[q1, q2, q3, q4]) := by
  obtain ⟨xs, n, _, rfl, hlen, hxl, hf⟩ := DataW.trod_struct Tryz.underlying31 h
  rw [cells_part] at hlen
  obtain ⟨c0, c1, c2, c3, c4, c5, c6, c7, c8, c9, c10, rfl⟩ := list_11 hlen
  obtain ⟨y0, y1, y2, rfl⟩ := list_3 hxl
  have h0 : DataW.trod enc Tryz.prog w base spare held n 9 (([c0, c1, c2, c3, c4, c5, c6, c7, c8, c9, c10].drop 0).take (Tryz.prog.cellsOf 9)) = some y0 := hf 0 _ rfl
  have h1 : DataW.trod enc Tryz.prog w base spare held n 29 (([c0, c1, c2, c3, c4, c5, c6, c7, c8, c9, c10].drop 1).take (Tryz.prog.cellsOf 29)) = some y1 := hf 1 _ rfl
  have h2 : DataW.trod enc Tryz.prog w base spare held n 3 (([c0, c1, c2, c3, c4, c5, c6, c7, c8, c9, c10].drop 10).take (Tryz.prog.cellsOf 3)) = some y2 := hf 2 _ rfl
  rw [cells_str] at h0
  rw [cells_elem] at h1
  rw [cells_int64] at h2
  obtain ⟨pn, e0, hy, _⟩ := DataW.trod_string Tryz.underlying9 h0
  have e0' : [c0] = [.string pn] := e0
  simp only [List.cons.injEq, and_true] at e0'
  subst e0'
  obtain ⟨kd, v1, v2, v3, v4, v5, v6, v7, v8, e1, f1⟩ := open_elem h1
  have e1' : [c1, c2, c3, c4, c5, c6, c7, c8, c9] = [.int .u8 kd, v1, v2, v3, v4, v5, v6, v7, v8] := e1
  simp only [List.cons.injEq, and_true] at e1'
  obtain ⟨rfl, rfl, rfl, rfl, rfl, rfl, rfl, rfl, rfl⟩ := e1'
  obtain ⟨co, e2, _, _⟩ := DataW.trod_int Tryz.underlying3 h2
  have e2' : [c10] = [.int .i64 co] := e2
  simp only [List.cons.injEq, and_true] at e2'
  subst e2'
  exact ⟨pn, kd, _, _, _, _, _, _, _, _, co, rfl, fun M h hM => ⟨h _ (by simp [DataW.weights, Tryz.underlying31, DataW.weightsEach, hy]), f1 M (fun k hk => h k (by simp [DataW.weights, Tryz.underlying31, DataW.weightsEach, hk])) hM⟩⟩
theorem open_op {fuel : Nat} {cs : List Value} {x : DataW H × List MemPlace} (h : DataW.trod enc Tryz.prog w base spare held fuel 33 cs = some x) (M : Nat) (hw : ∀ k ∈ x.1.weights Tryz.prog 33, k ≤ M) (hM : M ≤ 140737488355328) : RawOp w (.agg cs.toArray) := by
  obtain ⟨xs, n, _, rfl, hlen, hxl, hf⟩ := DataW.trod_struct Tryz.underlying33 h
  rw [cells_op] at hlen
  obtain ⟨c0, c1, c2, c3, c4, c5, c6, c7, c8, c9, c10, c11, c12, c13, c14, c15, c16, rfl⟩ := list_17 hlen
  obtain ⟨y0, y1, y2, y3, rfl⟩ := list_four hxl
  have h0 : DataW.trod enc Tryz.prog w base spare held n 5 (([c0, c1, c2, c3, c4, c5, c6, c7, c8, c9, c10, c11, c12, c13, c14, c15, c16].drop 0).take (Tryz.prog.cellsOf 5)) = some y0 := hf 0 _ rfl
  have h1 : DataW.trod enc Tryz.prog w base spare held n 31 (([c0, c1, c2, c3, c4, c5, c6, c7, c8, c9, c10, c11, c12, c13, c14, c15, c16].drop 1).take (Tryz.prog.cellsOf 31)) = some y1 := hf 1 _ rfl
  have h2 : DataW.trod enc Tryz.prog w base spare held n 9 (([c0, c1, c2, c3, c4, c5, c6, c7, c8, c9, c10, c11, c12, c13, c14, c15, c16].drop 12).take (Tryz.prog.cellsOf 9)) = some y2 := hf 2 _ rfl
  have h3 : DataW.trod enc Tryz.prog w base spare held n 27 (([c0, c1, c2, c3, c4, c5, c6, c7, c8, c9, c10, c11, c12, c13, c14, c15, c16].drop 13).take (Tryz.prog.cellsOf 27)) = some y3 := hf 3 _ rfl
  rw [cells_u8] at h0
  rw [cells_part] at h1
  rw [cells_str] at h2
  rw [cells_frac] at h3
  obtain ⟨kd, e0, _, _⟩ := DataW.trod_int Tryz.underlying5 h0
  have e0' : [c0] = [.int .u8 kd] := e0
  simp only [List.cons.injEq, and_true] at e0'
  subst e0'
  obtain ⟨pn, pk, v1, v2, v3, v4, v5, v6, v7, v8, co, e1, f1⟩ := open_part h1
  have e1' : [c1, c2, c3, c4, c5, c6, c7, c8, c9, c10, c11] = [.string pn, .int .u8 pk, v1, v2, v3, v4, v5, v6, v7, v8, .int .i64 co] := e1
  simp only [List.cons.injEq, and_true] at e1'
  obtain ⟨rfl, rfl, rfl, rfl, rfl, rfl, rfl, rfl, rfl, rfl, rfl⟩ := e1'
  obtain ⟨nm, e2, hy2, _⟩ := DataW.trod_string Tryz.underlying9 h2
  have e2' : [c12] = [.string nm] := e2
  simp only [List.cons.injEq, and_true] at e2'
  subst e2'
  obtain ⟨u1, u2, u3, u4, e3, f3⟩ := open_frac4 h3
  have e3' : [c13, c14, c15, c16] = [u1, u2, u3, u4] := e3
  simp only [List.cons.injEq, and_true] at e3'
  obtain ⟨rfl, rfl, rfl, rfl⟩ := e3'
  obtain ⟨hs1, g1, g2⟩ := f1 M (fun k hk => hw k (by simp [DataW.weights, Tryz.underlying33, DataW.weightsEach, hk])) hM
  exact ⟨kd, pn, pk, _, _, _, _, _, _, _, _, co, nm, _, _, _, _, rfl, Nat.le_trans hs1 hM, Nat.le_trans (hw _ (by simp [DataW.weights, Tryz.underlying33, DataW.weightsEach, hy2])) hM, g1, g2, f3 M (fun k hk => hw k (by simp [DataW.weights, Tryz.underlying33, DataW.weightsEach, hk])) hM⟩
set_option maxRecDepth 100000 in
/-- An op that came in. -/
theorem rawOp_of {r : Reach} {b0 : Nat} {v : Value} {d : DataW H} {p : List MemPlace} (hv : Value.okWide Tryz.prog w r b0 33 v) (h : DataW.Trod enc Tryz.prog w base spare held 33 v d p)
    (hM : ∀ k ∈ d.weights Tryz.prog 33, k ≤ reachBytes) : RawOp w v := by
  obtain ⟨cs, rfl, _⟩ := okWide_struct Tryz.underlying33 hv
  obtain ⟨fuel, hh⟩ := h
  have := open_op hh reachBytes hM reach_le
  simpa [Value.cells] using this
end
end Go.Proofs.YtplhndmncjoghaaGreatDoor
namespace Go.Proofs.YtplhndmncjoghaaGreatDoor
set_option maxRecDepth 100000
open Go Go.RowKit Go.Proofs
/-- asked, of whatever kind. -/
theorem asked_any (c : Value) (w : World) (h : GoneP w c) (kd : Int) (pn : ByteArray) (pk co : Int) (nm : ByteArray) (b1 : Bool) (l1 : List Nat) (a1 : Option Addr) (c1 : Nat) (b2 : Bool) (l2 : List Nat) (a2 : Option Addr) (c2 : Nat) (b3 : Bool) (l3 : List Nat) (a3 : Option Addr) (c3 : Nat) (b4 : Bool) (l4 : List Nat) (a4 : Option Addr) (c4 : Nat) (b5 : Bool) (l5 : List Nat) (a5 : Option Addr) (c5 : Nat) (b6 : Bool) (l6 : List Nat) (a6 : Option Addr) (c6 : Nat) (k1 : l1.length ≤ 1000000000) (k2 : l2.length ≤ 1000000000) (k3 : l3.length ≤ 1000000000) (k4 : l4.length ≤ 1000000000) (k5 : l5.length ≤ 1000000000) (k6 : l6.length ≤ 1000000000) (h1 : AnyL w (.agg #[.bool b1, .slice a1 l1.length c1, .bool b2, .slice a2 l2.length c2]) b1 l1 b2 l2) (h2 : AnyL w (.agg #[.bool b3, .slice a3 l3.length c3, .bool b4, .slice a4 l4.length c4]) b3 l3 b4 l4) (h3 : AnyL w (.agg #[.bool b5, .slice a5 l5.length c5, .bool b6, .slice a6 l6.length c6]) b5 l5 b6 l6) :
    Calls Tryz.prog 5 #[c, .agg #[.bool true, .slice none 0 0], .agg #[.int .u8 kd, .string pn, .int .u8 pk, .bool b1, .slice a1 l1.length c1, .bool b2, .slice a2 l2.length c2, .bool b3, .slice a3 l3.length c3, .bool b4, .slice a4 l4.length c4, .int .i64 co, .string nm, .bool b5, .slice a5 l5.length c5, .bool b6, .slice a6 l6.length c6]] w fun e w' => e = .returned (.tuple #[.agg #[.bool true, .slice none 0 0], .bool true]) ∧ Ext w w' := by
  by_cases d0 : kd = 0
  · subst d0
    exact asked_put c w h pn pk co b1 l1 a1 c1 b2 l2 a2 c2 b3 l3 a3 c3 b4 l4 a4 c4 nm _ _ _ _ k1 k2 k3 k4 h1 h2
  by_cases d1 : kd = 1
  · subst d1
    exact asked_drop c w h (Value.string pn) (Value.int .u8 pk) (Value.bool b1) (Value.slice a1 l1.length c1) (Value.bool b2) (Value.slice a2 l2.length c2) (Value.bool b3) (Value.slice a3 l3.length c3) (Value.bool b4) (Value.slice a4 l4.length c4) (Value.int .i64 co) nm (Value.bool b5) (Value.slice a5 l5.length c5) (Value.bool b6) (Value.slice a6 l6.length c6)
  by_cases d2 : kd = 2
  · subst d2
    exact asked_get c w h (Value.string pn) (Value.int .u8 pk) (Value.bool b1) (Value.slice a1 l1.length c1) (Value.bool b2) (Value.slice a2 l2.length c2) (Value.bool b3) (Value.slice a3 l3.length c3) (Value.bool b4) (Value.slice a4 l4.length c4) (Value.int .i64 co) nm (Value.bool b5) (Value.slice a5 l5.length c5) (Value.bool b6) (Value.slice a6 l6.length c6)
  by_cases d3 : kd = 3
  · subst d3
    exact asked_near c w h (Value.string pn) (Value.int .u8 pk) (Value.bool b1) (Value.slice a1 l1.length c1) (Value.bool b2) (Value.slice a2 l2.length c2) (Value.bool b3) (Value.slice a3 l3.length c3) (Value.bool b4) (Value.slice a4 l4.length c4) (Value.int .i64 co) nm b5 a5 l5.length c5 b6 a6 l6.length c6 l5 l6 (by omega) (by omega) h3
  by_cases d4 : kd = 4
  · subst d4
    exact asked_text c w h (Value.string pn) (Value.int .u8 pk) (Value.bool b1) (Value.slice a1 l1.length c1) (Value.bool b2) (Value.slice a2 l2.length c2) (Value.bool b3) (Value.slice a3 l3.length c3) (Value.bool b4) (Value.slice a4 l4.length c4) (Value.int .i64 co) nm (Value.bool b5) (Value.slice a5 l5.length c5) (Value.bool b6) (Value.slice a6 l6.length c6)
  exact asked_all c w h kd (Value.string pn) (Value.int .u8 pk) (Value.bool b1) (Value.slice a1 l1.length c1) (Value.bool b2) (Value.slice a2 l2.length c2) (Value.bool b3) (Value.slice a3 l3.length c3) (Value.bool b4) (Value.slice a4 l4.length c4) (Value.int .i64 co) nm (Value.bool b5) (Value.slice a5 l5.length c5) (Value.bool b6) (Value.slice a6 l6.length c6) (by simpa using d0) (by simpa using d1) (by simpa using d2) (by simpa using d3) (by simpa using d4)
def noneQ (w : World) (e : Ending) (w' : World) : Prop := e = .returned (.bool true) ∧ Ext w w'
set_option maxHeartbeats 1600000 in
theorem none_c (w : World) (kd : Int) (pn : ByteArray) (pk co : Int) (nm : ByteArray) (b1 : Bool) (l1 : List Nat) (a1 : Option Addr) (c1 : Nat) (b2 : Bool) (l2 : List Nat) (a2 : Option Addr) (c2 : Nat) (b3 : Bool) (l3 : List Nat) (a3 : Option Addr) (c3 : Nat) (b4 : Bool) (l4 : List Nat) (a4 : Option Addr) (c4 : Nat) (b5 : Bool) (l5 : List Nat) (a5 : Option Addr) (c5 : Nat) (b6 : Bool) (l6 : List Nat) (a6 : Option Addr) (c6 : Nat) (k1 : l1.length ≤ 140737488355328) (k2 : l2.length ≤ 140737488355328) (k3 : l3.length ≤ 140737488355328) (k4 : l4.length ≤ 140737488355328) (k5 : l5.length ≤ 140737488355328) (k6 : l6.length ≤ 140737488355328) (hpn : pn.size ≤ 140737488355328) (hnm : nm.size ≤ 140737488355328) (h1 : (∀ i ∈ [l1, l2, l3, l4, l5, l6], i.length ≤ 1000000000) → AnyL w (.agg #[.bool b1, .slice a1 l1.length c1, .bool b2, .slice a2 l2.length c2]) b1 l1 b2 l2) (h2 : (∀ i ∈ [l1, l2, l3, l4, l5, l6], i.length ≤ 1000000000) → AnyL w (.agg #[.bool b3, .slice a3 l3.length c3, .bool b4, .slice a4 l4.length c4]) b3 l3 b4 l4) (h3 : (∀ i ∈ [l1, l2, l3, l4, l5, l6], i.length ≤ 1000000000) → AnyL w (.agg #[.bool b5, .slice a5 l5.length c5, .bool b6, .slice a6 l6.length c6]) b5 l5 b6 l6) :
    Calls Tryz.prog 3 #[.agg #[.int .u8 kd, .string pn, .int .u8 pk, .bool b1, .slice a1 l1.length c1, .bool b2, .slice a2 l2.length c2, .bool b3, .slice a3 l3.length c3, .bool b4, .slice a4 l4.length c4, .int .i64 co, .string nm, .bool b5, .slice a5 l5.length c5, .bool b6, .slice a6 l6.length c6]] w (noneQ w) := by
  obtain ⟨w1, hw1⟩ : ∃ w1, w1 = w.alloc (.cells #[.int .u8 kd, .string pn, .int .u8 pk, .bool b1, .slice a1 l1.length c1, .bool b2, .slice a2 l2.length c2, .bool b3, .slice a3 l3.length c3, .bool b4, .slice a4 l4.length c4, .int .i64 co, .string nm, .bool b5, .slice a5 l5.length c5, .bool b6, .slice a6 l6.length c6] 33) := ⟨_, rfl⟩
  have hE1 : Ext w w1 := by rw [hw1]; exact (Ext.refl w).al _
  have zO : w1.heap[w.heap.size]? = some (.cells #[.int .u8 kd, .string pn, .int .u8 pk, .bool b1, .slice a1 l1.length c1, .bool b2, .slice a2 l2.length c2, .bool b3, .slice a3 l3.length c3, .bool b4, .slice a4 l4.length c4, .int .i64 co, .string nm, .bool b5, .slice a5 l5.length c5, .bool b6, .slice a6 l6.length c6] 33 (0, 0)) := by rw [hw1]; exact heap_alloc_new _ _
  have hsz : w1.heap.size = w.heap.size + 1 := by rw [hw1]; simp
  obtain ⟨w2, hw2⟩ : ∃ w2, w2 = w1.alloc (.cells #[.int .u8 kd, .string pn, .int .u8 pk, .bool b1, .slice a1 l1.length c1, .bool b2, .slice a2 l2.length c2, .bool b3, .slice a3 l3.length c3, .bool b4, .slice a4 l4.length c4, .int .i64 co, .string nm, .bool b5, .slice a5 l5.length c5, .bool b6, .slice a6 l6.length c6] 33) := ⟨_, rfl⟩
  have hE2 : Ext w1 w2 := by rw [hw2]; exact (Ext.refl w1).al _
  have zS : w2.heap[w.heap.size + 1]? = some (.cells #[.int .u8 kd, .string pn, .int .u8 pk, .bool b1, .slice a1 l1.length c1, .bool b2, .slice a2 l2.length c2, .bool b3, .slice a3 l3.length c3, .bool b4, .slice a4 l4.length c4, .int .i64 co, .string nm, .bool b5, .slice a5 l5.length c5, .bool b6, .slice a6 l6.length c6] 33 (0, 0)) := by rw [hw2, ← hsz]; exact heap_alloc_new _ _
  have HB := (beyond_1 kd pn pk co nm b1 a1 l1.length c1 b2 a2 l2.length c2 b3 a3 l3.length c3 b4 a4 l4.length c4 b5 a5 l5.length c5 b6 a6 l6.length c6 (w.heap.size + 1) w2 k1 k2 k3 k4 k5 k6 hpn hnm zS)
  have zO2 := mkHid (hE2.blk zO)
  have hE := mkHid (hE1.trans hE2)
  replace zO := mkHid zO
  replace hw1 := mkHid hw1
  replace hw2 := mkHid hw2
  replace hsz := mkHid hsz
  clear hE1 hE2 zS
  have e0 : (List.replicate 0 (0 : Nat)).length = 0 := rfl
  clear e0
  by_cases hS : 1048576 < opS nm pn l1.length l2.length l3.length l4.length l5.length l6.length
  · rw [decide_eq_true hS] at HB
    replace HB := mkHid HB
    replace hS := mkHid hS
    clear h1 h2 h3 k1 k2 k3 k4 k5 k6 hpn hnm
    unfold noneQ
    go_enter Tryz.func3, Tryz.ntmps3
    have tok : Tok 0 := .mk _
    go_wp2_with (first
      | ((have _t : Tok 0 := tok); clear _t; clear tok; (have tok : Tok 1 := .mk _); rw [← hw1.out]; refine wpList_load_row (by rfl) 33 (.tmp 1) rfl (w.heap.size) rfl 33 #[.int .u8 kd, .string pn, .int .u8 pk, .bool b1, .slice a1 l1.length c1, .bool b2, .slice a2 l2.length c2, .bool b3, .slice a3 l3.length c3, .bool b4, .slice a4 l4.length c4, .int .i64 co, .string nm, .bool b5, .slice a5 l5.length c5, .bool b6, .slice a6 l6.length c6] (0, 0) _ zO.out Tryz.underlying33 rfl (by kernel_rfl) ?_)
      | ((have _t : Tok 1 := tok); clear _t; clear tok; (have tok : Tok 2 := .mk _); go_at_call 4; rw [← hw2.out, hsz.out]; refine HB.out.mono ?_; rintro e w3 ⟨rfl, hx⟩; replace hE := mkHid (hE.out.trans hx); clear hx))
    go_ret
    exact ⟨rfl, hE.out⟩
  · rw [decide_eq_false hS] at HB
    have hl : l1.length ≤ 1000000000 ∧ l2.length ≤ 1000000000 ∧ l3.length ≤ 1000000000 ∧ l4.length ≤ 1000000000 ∧ l5.length ≤ 1000000000 ∧ l6.length ≤ 1000000000 := by
      unfold opS elemS at hS
      omega
    obtain ⟨m1, m2, m3, m4, m5, m6⟩ := hl
    have hm : ∀ i ∈ [l1, l2, l3, l4, l5, l6], i.length ≤ 1000000000 := by
      intro i hi
      simp only [List.mem_cons, List.not_mem_nil, or_false] at hi
      rcases hi with rfl | rfl | rfl | rfl | rfl | rfl <;> assumption
    have j1 := h1 hm
    have j2 := h2 hm
    have j3 := h3 hm
    have HQ := mkHid (fun c W (hc : GoneP W c) (e : Ext w W) => asked_any c W hc kd pn pk co nm b1 l1 a1 c1 b2 l2 a2 c2 b3 l3 a3 c3 b4 l4 a4 c4 b5 l5 a5 c5 b6 l6 a6 c6 m1 m2 m3 m4 m5 m6 (j1.ext e) (j2.ext e) (j3.ext e))
    replace HB := mkHid HB
    clear hS h1 h2 h3 k1 k2 k3 k4 k5 k6 hpn hnm m1 m2 m3 m4 m5 m6 hm j1 j2 j3
    unfold noneQ
    go_enter Tryz.func3, Tryz.ntmps3
    have tok : Tok 3 := .mk _
    go_wp2_with (first
      | ((have _t : Tok 3 := tok); clear _t; clear tok; (have tok : Tok 4 := .mk _); rw [← hw1.out]; refine wpList_load_row (by rfl) 33 (.tmp 1) rfl (w.heap.size) rfl 33 #[.int .u8 kd, .string pn, .int .u8 pk, .bool b1, .slice a1 l1.length c1, .bool b2, .slice a2 l2.length c2, .bool b3, .slice a3 l3.length c3, .bool b4, .slice a4 l4.length c4, .int .i64 co, .string nm, .bool b5, .slice a5 l5.length c5, .bool b6, .slice a6 l6.length c6] (0, 0) _ zO.out Tryz.underlying33 rfl (by kernel_rfl) ?_)
      | ((have _t : Tok 4 := tok); clear _t; clear tok; (have tok : Tok 5 := .mk _); go_at_call 4; rw [← hw2.out, hsz.out]; refine HB.out.mono ?_; rintro e w3 ⟨rfl, hx⟩; replace hE := mkHid (hE.out.trans hx); replace zO := mkHid (hx.blk zO2.out); clear hx zO2)
      | ((have _t : Tok 5 := tok); clear _t; clear tok; (have tok : Tok 6 := .mk _); (obtain ⟨wa1, ha1⟩ : ∃ W, W = w3.alloc (.cells #[.bool true, .slice none 0 0] 39) := ⟨_, rfl⟩); rw [← ha1]; (have hx : Ext w3 wa1 := by rw [ha1]; exact (Ext.refl _).al _); replace zO := mkHid (hx.blk zO.out); replace hE := mkHid (hE.out.trans hx); (have zG := mkHid (show wa1.heap[w3.heap.size]? = some (.cells #[.bool true, .slice none 0 0] 39 (0, 0)) by rw [ha1]; exact heap_alloc_new _ _)); clear hx; replace ha1 := mkHid ha1; refine wpList_load_row (by rfl) 39 (.tmp 4) rfl (w3.heap.size) rfl 39 #[.bool true, .slice none 0 0] (0, 0) _ zG.out Tryz.underlying39 rfl (by kernel_rfl) ?_)
      | ((have _t : Tok 6 := tok); clear _t; clear tok; (have tok : Tok 7 := .mk _); refine wpList_load_row (by rfl) 33 (.tmp 1) rfl (w.heap.size) rfl 33 #[.int .u8 kd, .string pn, .int .u8 pk, .bool b1, .slice a1 l1.length c1, .bool b2, .slice a2 l2.length c2, .bool b3, .slice a3 l3.length c3, .bool b4, .slice a4 l4.length c4, .int .i64 co, .string nm, .bool b5, .slice a5 l5.length c5, .bool b6, .slice a6 l6.length c6] (0, 0) _ zO.out Tryz.underlying33 rfl (by kernel_rfl) ?_)
      | ((have _t : Tok 7 := tok); clear _t; clear tok; (have tok : Tok 8 := .mk _); go_at_call 5; refine (HQ.out (.pointer none) _ (.inl rfl) hE.out).mono ?_; rintro e wc2 ⟨rfl, hx⟩; replace zO := mkHid (hx.blk zO.out); replace zG := mkHid (hx.blk zG.out); replace hE := mkHid (hE.out.trans hx); clear hx)
      | ((have _t : Tok 8 := tok); clear _t; clear tok; (have tok : Tok 9 := .mk _); (obtain ⟨wa3, ha3⟩ : ∃ W, W = (wc2.alloc (.cells #[.bool true, .slice none 0 0] 39)).alloc (.cells #[.map none] 44) := ⟨_, rfl⟩); rw [← ha3]; (have hx : Ext wc2 wa3 := by rw [ha3]; exact ((Ext.refl _).al _).al _); replace zO := mkHid (hx.blk zO.out); replace zG := mkHid (hx.blk zG.out); replace hE := mkHid (hE.out.trans hx); (have zC := mkHid (show wa3.heap[wc2.heap.size + 1]? = some (.cells #[.map none] 44 (0, 0)) by rw [ha3]; exact heap_at _ _ _ (by simp))); clear hx; replace ha3 := mkHid ha3; refine wpList_load_row (by rfl) 39 (.tmp 4) rfl (w3.heap.size) rfl 39 #[.bool true, .slice none 0 0] (0, 0) _ zG.out Tryz.underlying39 rfl (by kernel_rfl) ?_)
      | ((have _t : Tok 9 := tok); clear _t; clear tok; (have tok : Tok 10 := .mk _); refine wpList_load_row (by rfl) 33 (.tmp 1) rfl (w.heap.size) rfl 33 #[.int .u8 kd, .string pn, .int .u8 pk, .bool b1, .slice a1 l1.length c1, .bool b2, .slice a2 l2.length c2, .bool b3, .slice a3 l3.length c3, .bool b4, .slice a4 l4.length c4, .int .i64 co, .string nm, .bool b5, .slice a5 l5.length c5, .bool b6, .slice a6 l6.length c6] (0, 0) _ zO.out Tryz.underlying33 rfl (by kernel_rfl) ?_)
      | ((have _t : Tok 10 := tok); clear _t; clear tok; (have tok : Tok 11 := .mk _); go_at_call 5; refine (HQ.out (.pointer (some ⟨wc2.heap.size + 1, 0, none⟩)) _ (.inr ⟨_, rfl, zC.out⟩) hE.out).mono ?_; rintro e wc4 ⟨rfl, hx⟩; replace zO := mkHid (hx.blk zO.out); replace zG := mkHid (hx.blk zG.out); replace zC := mkHid (hx.blk zC.out); replace hE := mkHid (hE.out.trans hx); clear hx)
      | ((have _t : Tok 11 := tok); clear _t; clear tok; (have tok : Tok 12 := .mk _); go_at_call 6; (obtain ⟨wa5, ha5⟩ : ∃ W, W = wc4.alloc (.cells #[.bool true, .slice none 0 0] 39) := ⟨_, rfl⟩); rw [← ha5]; (have hx : Ext wc4 wa5 := by rw [ha5]; exact (Ext.refl _).al _); replace zO := mkHid (hx.blk zO.out); replace zG := mkHid (hx.blk zG.out); replace zC := mkHid (hx.blk zC.out); replace hE := mkHid (hE.out.trans hx); (have zI := mkHid (show wa5.heap[wc4.heap.size]? = some (.cells #[.bool true, .slice none 0 0] 39 (0, 0)) by rw [ha5]; exact heap_alloc_new _ _)); clear hx; replace ha5 := mkHid ha5; refine (all_g (.pointer none) _ (.inl rfl)).mono ?_; rintro e wc6 ⟨rfl, hx⟩; replace zO := mkHid (hx.blk zO.out); replace zG := mkHid (hx.blk zG.out); replace zC := mkHid (hx.blk zC.out); replace zI := mkHid (hx.blk zI.out); replace hE := mkHid (hE.out.trans hx); clear hx))
    go_ret
    exact ⟨rfl, hE.out⟩
theorem rawF_any {w : World} {v : Value} (h : RawF w v) : ∃ b1 a1 c1 b2 a2 c2, ∃ l1 l2 : List Nat, v = .agg #[.bool b1, .slice a1 l1.length c1, .bool b2, .slice a2 l2.length c2] ∧ l1.length ≤ 140737488355328 ∧ l2.length ≤ 140737488355328 ∧ (l1.length ≤ 1000000000 → l2.length ≤ 1000000000 → AnyL w (.agg #[.bool b1, .slice a1 l1.length c1, .bool b2, .slice a2 l2.length c2]) b1 l1 b2 l2) := by
  obtain ⟨b1, a1, c1, b2, a2, c2, l1, l2, h0, h1, h2, h3, h4⟩ := h
  exact ⟨b1, a1, c1, b2, a2, c2, l1, l2, h0, h1, h2, fun g1 g2 => ⟨a1, c1, a2, c2, rfl, by omega, by omega, h3, h4⟩⟩
/-- The law, of whatever op comes in. -/
theorem none_law (v : Value) (w : World) (h : RawOp w v) : Calls Tryz.prog 3 #[v] w (noneQ w) := by
  obtain ⟨kd, pn, pk, p1, p2, p3, p4, q1, q2, q3, q4, co, nm, u1, u2, u3, u4, rfl, hpn, hnm, f1, f2, f3⟩ := h
  obtain ⟨b1, a1, c1, b2, a2, c2, l1, l2, e1, k1, k2, j1⟩ := rawF_any f1
  obtain ⟨b3, a3, c3, b4, a4, c4, l3, l4, e2, k3, k4, j2⟩ := rawF_any f2
  obtain ⟨b5, a5, c5, b6, a6, c6, l5, l6, e3, k5, k6, j3⟩ := rawF_any f3
  simp only [Value.agg.injEq, Array.mk.injEq, List.cons.injEq, and_true] at e1 e2 e3
  obtain ⟨rfl, rfl, rfl, rfl⟩ := e1
  obtain ⟨rfl, rfl, rfl, rfl⟩ := e2
  obtain ⟨rfl, rfl, rfl, rfl⟩ := e3
  exact none_c w kd pn pk co nm b1 l1 a1 c1 b2 l2 a2 c2 b3 l3 a3 c3 b4 l4 a4 c4 b5 l5 a5 c5 b6 l6 a6 c6 k1 k2 k3 k4 k5 k6 hpn hnm (fun h => j1 (h _ (by simp)) (h _ (by simp))) (fun h => j2 (h _ (by simp)) (h _ (by simp))) (fun h => j3 (h _ (by simp)) (h _ (by simp)))
end Go.Proofs.YtplhndmncjoghaaGreatDoor
