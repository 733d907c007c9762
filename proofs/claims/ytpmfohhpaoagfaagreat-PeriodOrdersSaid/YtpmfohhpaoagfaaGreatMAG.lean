/-
  period: Chebyshev, where it refuses. period: Chebyshev, where it reckons. ray: det, pair: printed by tools/gen_ratio.py. ray: Check.
-/
import Derived.Test.YtpmfohhpaoagfaaGreatMAF
namespace Go.Proofs.YtpmfohhpaoagfaaGreat
open Go Go.RowKit Go.Proofs
theorem results_row2_tmp {P : Program} {fn : Func} {p q r : Tmp} {ty : TypeId} (h : fn.results = #[.cell p ty, .cell q ty, .tmp r]) (tmps : Array Value) (w : World) (g g' : Nat) (t : TypeId) (cs cs' : Array Value) (u : Value) (d : TypeDesc)
    (hp : tmps.getD p undef = .pointer (some ⟨g, 0, none⟩)) (hq : tmps.getD q undef = .pointer (some ⟨g', 0, none⟩)) (hr : tmps.getD r undef = u) (hg : w.heap[g]? = some (.cells cs t (0, 0))) (hg' : w.heap[g']? = some (.cells cs' t (0, 0)))
    (hu : P.underlying ty = some d) (hd : (match d with | .struct _ | .array _ _ => true | _ => false) = true) (hi : (P.info? ty).map (·.size) = some cs.size) (hi' : (P.info? ty).map (·.size) = some cs'.size) :
    (results fn tmps).run P w = .ok (.tuple #[.agg cs, .agg cs', u]) w := by
  have hp' : tmps[p]?.getD undef = .pointer (some ⟨g, 0, none⟩) := by simpa using hp
  have hq' : tmps[q]?.getD undef = .pointer (some ⟨g', 0, none⟩) := by simpa using hq
  have hr' : tmps[r]?.getD undef = u := by simpa using hr
  simp [results, h, hp', hq', hr', asAddr, run_loadVar_row w g t ty cs (0, 0) d hg hu hd hi, run_loadVar_row w g' t ty cs' (0, 0) d hg' hu hd hi']
set_option maxRecDepth 100000 in
set_option maxHeartbeats 3200000 in
theorem cheb_none (n : Int) (v : Value) (w : World) (h : AnyF w v none) :
    Calls Tryz.prog 33 #[.int .i64 n, v] w fun e w' => ∃ u t, e = .returned (.tuple #[u, t, .int .i64 1]) ∧ Ext w w' ∧ AnyF w' u none ∧ AnyF w' t none := by
  obtain ⟨p1, q1, r1, s1, p2, q2, r2, s2, rfl⟩ := h.shape
  obtain ⟨wb, hwb⟩ : ∃ wb, wb = ((w.alloc (.cells #[.bool p1, .slice q1 r1 s1, .bool p2, .slice q2 r2 s2] 26)).alloc (.cells #[.bool false, .slice none 0 0, .bool false, .slice none 0 0] 26)).alloc (.cells #[.bool false, .slice none 0 0, .bool false, .slice none 0 0] 26) := ⟨_, rfl⟩
  have hE : Ext w wb := by rw [hwb]; exact (((Ext.refl w).al _).al _).al _
  have z0 : wb.heap[w.heap.size]? = some (.cells #[.bool p1, .slice q1 r1 s1, .bool p2, .slice q2 r2 s2] 26 (0, 0)) := by rw [hwb]; exact (heap_alloc_old _ _ (by simp <;> omega)).trans ((heap_alloc_old _ _ (by simp <;> omega)).trans (heap_alloc_new _ _))
  have z1 : wb.heap[w.heap.size + 1]? = some (.cells #[.bool false, .slice none 0 0, .bool false, .slice none 0 0] 26 (0, 0)) := by rw [hwb]; exact (heap_alloc_old _ _ (by simp <;> omega)).trans (heap_at _ _ _ (by simp))
  have z2 : wb.heap[w.heap.size + 1 + 1]? = some (.cells #[.bool false, .slice none 0 0, .bool false, .slice none 0 0] 26 (0, 0)) := by rw [hwb]; exact heap_at _ _ _ (by simp)
  replace h := mkHid (h.ext hE)
  replace hE := mkHid hE
  replace z0 := mkHid z0
  replace z1 := mkHid z1
  replace z2 := mkHid z2
  replace hwb := mkHid hwb
  have kc := mkHid (check_f _ none wb h.out)
  simp only [Option.isSome_none] at kc
  go_enter Tryz.func33, Tryz.ntmps33
  go_wp2_with fail
  rw [← hwb.out]
  clear hwb
  refine kc.out.mono ?_
  rintro e w1 ⟨rfl, hE1⟩
  replace hE := mkHid (hE.out.trans hE1)
  replace z1 := mkHid (hE1.blk z1.out)
  replace z2 := mkHid (hE1.blk z2.out)
  clear hE1 kc
  have zrows := two_rows w1 (w.heap.size + 1) (w.heap.size + 1 + 1) #[.bool false, .slice none 0 0, .bool false, .slice none 0 0] #[.bool false, .slice none 0 0, .bool false, .slice none 0 0] _ _ _ (by omega) z1.out z2.out
  have FE := (hE.out.row (show w.heap.size ≤ w.heap.size + 1 by omega) #[.bool false, .slice none 0 0, .bool false, .slice none 0 0]).row (show w.heap.size ≤ w.heap.size + 1 + 1 by omega) #[.bool false, .slice none 0 0, .bool false, .slice none 0 0]
  have FR := any_zero ((w1.setRow (w.heap.size + 1) #[.bool false, .slice none 0 0, .bool false, .slice none 0 0]).setRow (w.heap.size + 1 + 1) #[.bool false, .slice none 0 0, .bool false, .slice none 0 0])
  replace zrows := mkHid zrows
  replace FE := mkHid FE
  replace FR := mkHid FR
  go_wp2_with (first
    | (refine wpList_store_row rfl 26 (.tmp 4) (.tmp 14) rfl (w.heap.size + 1) #[.bool false, .slice none 0 0, .bool false, .slice none 0 0] rfl rfl 26 _ z1.out (by kernel_rfl) rfl (by kernel_rfl) ?_)
    | (refine wpList_store_row rfl 26 (.tmp 5) (.tmp 15) rfl (w.heap.size + 1 + 1) #[.bool false, .slice none 0 0, .bool false, .slice none 0 0] rfl rfl 26 _ zrows.out.2.2 (by kernel_rfl) rfl (by kernel_rfl) ?_))
  exact bodyPost_ret (results_row2_tmp rfl _ _ (w.heap.size + 1) (w.heap.size + 1 + 1) 26 #[.bool false, .slice none 0 0, .bool false, .slice none 0 0] #[.bool false, .slice none 0 0, .bool false, .slice none 0 0] _ _ rfl rfl rfl zrows.out.1 zrows.out.2.1 Tryz.underlying26 rfl (by kernel_rfl) (by kernel_rfl)) rfl ⟨_, _, rfl, FE.out, FR.out, FR.out⟩
set_option maxRecDepth 100000 in
set_option maxHeartbeats 3200000 in
theorem cheb_count (n : Int) (x : Rat) (v : Value) (w : World) (h : AnyF w v (some x)) (hn : n < 0 ∨ 4096 < n) :
    Calls Tryz.prog 33 #[.int .i64 n, v] w fun e w' => ∃ u t, e = .returned (.tuple #[u, t, .int .i64 (countE n)]) ∧ Ext w w' ∧ AnyF w' u none ∧ AnyF w' t none := by
  obtain ⟨p1, q1, r1, s1, p2, q2, r2, s2, rfl⟩ := h.shape
  obtain ⟨wb, hwb⟩ : ∃ wb, wb = ((w.alloc (.cells #[.bool p1, .slice q1 r1 s1, .bool p2, .slice q2 r2 s2] 26)).alloc (.cells #[.bool false, .slice none 0 0, .bool false, .slice none 0 0] 26)).alloc (.cells #[.bool false, .slice none 0 0, .bool false, .slice none 0 0] 26) := ⟨_, rfl⟩
  have hE : Ext w wb := by rw [hwb]; exact (((Ext.refl w).al _).al _).al _
  have z0 : wb.heap[w.heap.size]? = some (.cells #[.bool p1, .slice q1 r1 s1, .bool p2, .slice q2 r2 s2] 26 (0, 0)) := by rw [hwb]; exact (heap_alloc_old _ _ (by simp <;> omega)).trans ((heap_alloc_old _ _ (by simp <;> omega)).trans (heap_alloc_new _ _))
  have z1 : wb.heap[w.heap.size + 1]? = some (.cells #[.bool false, .slice none 0 0, .bool false, .slice none 0 0] 26 (0, 0)) := by rw [hwb]; exact (heap_alloc_old _ _ (by simp <;> omega)).trans (heap_at _ _ _ (by simp))
  have z2 : wb.heap[w.heap.size + 1 + 1]? = some (.cells #[.bool false, .slice none 0 0, .bool false, .slice none 0 0] 26 (0, 0)) := by rw [hwb]; exact heap_at _ _ _ (by simp)
  replace h := mkHid (h.ext hE)
  replace hE := mkHid hE
  replace z0 := mkHid z0
  replace z1 := mkHid z1
  replace z2 := mkHid z2
  replace hwb := mkHid hwb
  have kc := mkHid (check_f _ (some x) wb h.out)
  simp only [Option.isSome_some] at kc
  have kn := mkHid (fun w => counted_c n w)
  have hc : (countE n == 0) = false := by
    unfold countE
    rcases hn with h | h
    · rw [if_pos h]; rfl
    · rw [if_neg (by omega), if_pos h]; rfl
  generalize countE n = C at *
  replace hn := mkHid hn
  go_enter Tryz.func33, Tryz.ntmps33
  go_wp2_with fail
  rw [← hwb.out]
  clear hwb
  refine kc.out.mono ?_
  rintro e w1 ⟨rfl, hE1⟩
  replace hE := mkHid (hE.out.trans hE1)
  replace z1 := mkHid (hE1.blk z1.out)
  replace z2 := mkHid (hE1.blk z2.out)
  clear hE1 kc
  go_wp2_with fail
  refine (kn.out w1).mono ?_
  rintro e w2 ⟨rfl, rfl⟩
  have zrows := two_rows w2 (w.heap.size + 1) (w.heap.size + 1 + 1) #[.bool false, .slice none 0 0, .bool false, .slice none 0 0] #[.bool false, .slice none 0 0, .bool false, .slice none 0 0] _ _ _ (by omega) z1.out z2.out
  have FE := (hE.out.row (show w.heap.size ≤ w.heap.size + 1 by omega) #[.bool false, .slice none 0 0, .bool false, .slice none 0 0]).row (show w.heap.size ≤ w.heap.size + 1 + 1 by omega) #[.bool false, .slice none 0 0, .bool false, .slice none 0 0]
  have FR := any_zero ((w2.setRow (w.heap.size + 1) #[.bool false, .slice none 0 0, .bool false, .slice none 0 0]).setRow (w.heap.size + 1 + 1) #[.bool false, .slice none 0 0, .bool false, .slice none 0 0])
  replace zrows := mkHid zrows
  replace FE := mkHid FE
  replace FR := mkHid FR
  go_wp2_with (first
    | (refine wpList_store_row rfl 26 (.tmp 4) (.tmp 20) rfl (w.heap.size + 1) #[.bool false, .slice none 0 0, .bool false, .slice none 0 0] rfl rfl 26 _ z1.out (by kernel_rfl) rfl (by kernel_rfl) ?_)
    | (refine wpList_store_row rfl 26 (.tmp 5) (.tmp 21) rfl (w.heap.size + 1 + 1) #[.bool false, .slice none 0 0, .bool false, .slice none 0 0] rfl rfl 26 _ zrows.out.2.2 (by kernel_rfl) rfl (by kernel_rfl) ?_))
  exact bodyPost_ret (results_row2_tmp rfl _ _ (w.heap.size + 1) (w.heap.size + 1 + 1) 26 #[.bool false, .slice none 0 0, .bool false, .slice none 0 0] #[.bool false, .slice none 0 0, .bool false, .slice none 0 0] _ _ rfl rfl rfl zrows.out.1 zrows.out.2.1 Tryz.underlying26 rfl (by kernel_rfl) (by kernel_rfl)) rfl ⟨_, _, rfl, FE.out, FR.out, FR.out⟩
end Go.Proofs.YtpmfohhpaoagfaaGreat
namespace Go.Proofs.YtpmfohhpaoagfaaGreat
open Go Go.RowKit Go.Proofs
/-- U(n) and T(n). -/
def chebU (n : Nat) (x : Rat) : Rat := (itR (x + x) n (0, 1)).2
def chebT (n : Nat) (x : Rat) : Rat := (itR (x + x) n (x, 1)).2
def chebE (n : Nat) (x : Rat) : Int := if nf (chebU n x) ≤ 2048 ∧ nf (chebT n x) ≤ 2048 then 0 else 4
def chebOU (n : Nat) (x : Rat) : Option Rat := if nf (chebU n x) ≤ 2048 ∧ nf (chebT n x) ≤ 2048 then some (chebU n x) else none
def chebOT (n : Nat) (x : Rat) : Option Rat := if nf (chebU n x) ≤ 2048 ∧ nf (chebT n x) ≤ 2048 then some (chebT n x) else none
theorem nl_small {a : Int} (h : a.natAbs < 4294967296) : nl a ≤ 1 := by
  unfold nl
  exact lim_one_le h
theorem rat_den (x : Rat) : x * (x.den : Rat) = (x.num : Rat) := by
  have e : x = (x.num : Rat) / ((x.den : Int) : Rat) := by rw [← Rat.divInt_eq_div, Rat.num_divInt_den]
  have hz : ((x.den : Int) : Rat) ≠ 0 := by
    intro h0
    have : (x.den : Int) = 0 := by exact_mod_cast h0
    exact x.den_nz (by omega)
  have e2 : ((x.den : Int) : Rat) = (x.den : Rat) := by push_cast; rfl
  rw [e2] at e hz
  generalize (x.num : Rat) = a at *
  generalize (x.den : Rat) = d at *
  grind
theorem cheb_big (n : Nat) (x : Rat) (hn : n ≤ 4096) (hx : nf x ≤ 2048) : bigR (x + x) n (0, 1) ∧ bigR (x + x) n (x, 1) := by
  have h1 : nl x.num ≤ 2048 := Nat.le_trans (Nat.le_max_left _ _) hx
  have h2 : nl (x.den : Int) ≤ 2048 := Nat.le_trans (Nat.le_max_right _ _) hx
  have hd : x * (x.den : Rat) = (x.num : Rat) := rat_den x
  have hz : (x + x) * (x.den : Rat) = ((2 * x.num : Int) : Rat) := by
    have e : ((2 * x.num : Int) : Rat) = 2 * (x.num : Rat) := by push_cast; rfl
    rw [e, ← hd]
    generalize (x.den : Rat) = d
    grind
  have hzf : nf (x + x) ≤ 67108864 := by have := nf_add_le x x; omega
  have hB : nl (((x.num.natAbs + 1 : Nat) : Nat) : Int) ≤ 4100 := by
    have e1 := nl_add (x.num.natAbs : Int) 1
    have e2 : nl ((x.num.natAbs : Nat) : Int) = nl x.num := by unfold nl; rw [Int.natAbs_natCast]
    have e3 : nl 1 ≤ 1 := nl_small (by decide)
    rw [Int.natCast_add]
    have : ((1 : Nat) : Int) = 1 := rfl
    rw [this]
    omega
  have hM : nl ((((2 * x.num : Int)).natAbs + x.den : Nat) : Int) ≤ 4100 := by
    have e1 := nl_add ((2 * x.num).natAbs : Int) (x.den : Int)
    have e2 : nl (((2 * x.num).natAbs : Nat) : Int) = nl (2 * x.num) := by unfold nl; rw [Int.natAbs_natCast]
    have e3 := nl_mul 2 x.num
    have e4 : nl 2 ≤ 1 := nl_small (by decide)
    rw [Int.natCast_add]
    omega
  have hQ : 0 < x.den := Nat.pos_of_ne_zero x.den_nz
  constructor
  · exact big_of (x + x) (0, 1) n (2 * x.num) x.den (x.num.natAbs + 1) hn hQ hzf hz ⟨0, by simp, by simp⟩ ⟨1, rfl, by simp⟩ hM hB
  · refine big_of (x + x) (x, 1) n (2 * x.num) x.den (x.num.natAbs + 1) hn hQ hzf hz ⟨x.num, hd, ?_⟩ ⟨1, rfl, by simp⟩ hM hB
    have : (x.num.natAbs + 1) * 1 ≤ (x.num.natAbs + 1) * x.den := Nat.mul_le_mul_left _ hQ
    omega
theorem lr_two {w : World} {g : Nat} {b1 b2 b3 b4 : Bool} {a1 a2 a3 a4 : Option Addr} {n1 c1 n2 c2 n3 c3 n4 c4 : Nat} {x y : Rat} {T : Nat}
    (hg : w.heap[g]? = some (.cells #[.bool b1, .slice a1 n1 c1, .bool b2, .slice a2 n2 c2, .bool b3, .slice a3 n3 c3, .bool b4, .slice a4 n4 c4] T (0, 0)))
    (h : FracR w (.agg #[.bool b1, .slice a1 n1 c1, .bool b2, .slice a2 n2 c2]) x) (h' : FracR w (.agg #[.bool b3, .slice a3 n3 c3, .bool b4, .slice a4 n4 c4]) y) : LR w g [x, y] := by
  intro k hk
  have hk2 : k = 0 ∨ k = 1 := by simp at hk; omega
  rcases hk2 with rfl | rfl
  · exact ⟨_, _, _, _, _, _, _, _, by simp [World.cell?, hg], by simp [World.cell?, hg], by simp [World.cell?, hg], by simp [World.cell?, hg], h⟩
  · exact ⟨_, _, _, _, _, _, _, _, by simp [World.cell?, hg], by simp [World.cell?, hg], by simp [World.cell?, hg], by simp [World.cell?, hg], h'⟩
/-- A slice of these fractions. -/
def SlR (os : List Rat) (n : Nat) (W : World) (v : Value) : Prop := ∃ g, v = .slice (some ⟨g, 0, none⟩) n n ∧ LR W g os
theorem st_slR {ss : List FSpec} (os : List Rat) (n : Nat) (h : StableAll Ext ss) : StableAll Ext (.pred (SlR os n) :: ss) := ⟨fun _ _ _ e h => by obtain ⟨g, h1, h2⟩ := h; exact ⟨g, h1, h2.ext e⟩, h⟩
set_option maxRecDepth 100000 in
set_option maxHeartbeats 3200000 in
theorem cheb_fine (n : Nat) (x : Rat) (v : Value) (w : World) (h : AnyF w v (some x)) (hn : n ≤ 4096) :
    Calls Tryz.prog 33 #[.int .i64 (n : Nat), v] w fun e w' => ∃ u t, e = .returned (.tuple #[u, t, .int .i64 (chebE n x)]) ∧ Ext w w' ∧
      AnyF w' u (chebOU n x) ∧ AnyF w' t (chebOT n x) := by
  obtain ⟨p1, q1, r1, s1, p2, q2, r2, s2, rfl⟩ := h.shape
  obtain ⟨wb, hwb⟩ : ∃ wb, wb = ((w.alloc (.cells #[.bool p1, .slice q1 r1 s1, .bool p2, .slice q2 r2 s2] 26)).alloc (.cells #[.bool false, .slice none 0 0, .bool false, .slice none 0 0] 26)).alloc (.cells #[.bool false, .slice none 0 0, .bool false, .slice none 0 0] 26) := ⟨_, rfl⟩
  have hE : Ext w wb := by rw [hwb]; exact (((Ext.refl w).al _).al _).al _
  have z0 : wb.heap[w.heap.size]? = some (.cells #[.bool p1, .slice q1 r1 s1, .bool p2, .slice q2 r2 s2] 26 (0, 0)) := by rw [hwb]; exact (heap_alloc_old _ _ (by simp <;> omega)).trans ((heap_alloc_old _ _ (by simp <;> omega)).trans (heap_alloc_new _ _))
  have z1 : wb.heap[w.heap.size + 1]? = some (.cells #[.bool false, .slice none 0 0, .bool false, .slice none 0 0] 26 (0, 0)) := by rw [hwb]; exact (heap_alloc_old _ _ (by simp <;> omega)).trans (heap_at _ _ _ (by simp))
  have z2 : wb.heap[w.heap.size + 1 + 1]? = some (.cells #[.bool false, .slice none 0 0, .bool false, .slice none 0 0] 26 (0, 0)) := by rw [hwb]; exact heap_at _ _ _ (by simp)
  replace h := mkHid (h.ext hE)
  replace hE := mkHid hE
  replace z0 := mkHid z0
  replace z1 := mkHid z1
  replace z2 := mkHid z2
  replace hwb := mkHid hwb
  obtain ⟨fx, nx⟩ := h.out.frac
  obtain ⟨big1, big2⟩ := cheb_big n x hn nx
  have kc := mkHid (check_f _ (some x) wb h.out)
  simp only [Option.isSome_some] at kc
  have kn := mkHid (fun w => counted_c (n : Int) w)
  have hc : countE (n : Int) = 0 := by unfold countE; rw [if_neg (by omega), if_neg (by omega)]
  rw [hc] at kn
  have ks := mkHid (fun w h => second_c (.agg #[.bool p1, .slice q1 r1 s1, .bool p2, .slice q2 r2 s2]) x w (by omega) h)
  have ko := mkHid one_f
  replace big1 := mkHid big1
  replace big2 := mkHid big2
  replace fx := mkHid fx
  replace nx := mkHid nx
  clear hc
  go_enter Tryz.func33, Tryz.ntmps33
  go_wp2_with fail
  rw [← hwb.out]
  clear hwb
  refine kc.out.mono ?_
  rintro e w1 ⟨rfl, hE1⟩
  replace hE := mkHid (hE.out.trans hE1)
  replace z0 := mkHid (hE1.blk z0.out)
  replace z1 := mkHid (hE1.blk z1.out)
  replace z2 := mkHid (hE1.blk z2.out)
  replace fx := mkHid (fx.out.ext hE1)
  clear hE1 kc
  go_wp2_with fail
  refine (kn.out w1).mono ?_
  rintro e w2 ⟨rfl, rfl⟩
  have b0 := row4_cells z0.out
  have hz2 : w.heap.size + 1 + 1 < w2.heap.size := (Array.getElem?_eq_some_iff.1 z2.out).1
  go_wp2_with fail
  refine (ks.out _ fx.out).mono ?_
  rintro e w3 ⟨ga, rfl, hga, hE3, hA⟩
  clear b0
  replace hE := mkHid (hE.out.trans hE3)
  replace z0 := mkHid (hE3.blk z0.out)
  replace z1 := mkHid (hE3.blk z1.out)
  replace z2 := mkHid (hE3.blk z2.out)
  replace fx := mkHid (fx.out.ext hE3)
  have hga2 := hz2
  clear hE3 ks
  replace hA := mkHid hA
  go_wp2_with fail
  obtain ⟨b1, a1, n1, m1, b2, a2, n2, m2, b3, a3, n3, m3, b4, a4, n4, m4, b5, a5, n5, m5, b6, a6, n6, m6, g0, g1, g2, g3⟩ := hA.out
  have c0 : ∀ W, Ext w3 W → W.cell? ⟨w.heap.size, 0, none⟩ = some (.bool p1) := fun W e => e.cell (row4_cells z0.out).1
  have c1 : ∀ W, Ext w3 W → W.cell? ⟨w.heap.size, 1, none⟩ = some (.slice q1 r1 s1) := fun W e => e.cell (row4_cells z0.out).2.1
  have c2 : ∀ W, Ext w3 W → W.cell? ⟨w.heap.size, 2, none⟩ = some (.bool p2) := fun W e => e.cell (row4_cells z0.out).2.2.1
  have c3 : ∀ W, Ext w3 W → W.cell? ⟨w.heap.size, 3, none⟩ = some (.slice q2 r2 s2) := fun W e => e.cell (row4_cells z0.out).2.2.2
  have d0 : ∀ W, Ext w3 W → W.cell? ⟨ga, 8, none⟩ = some (.bool b5) := fun W e => by simp [World.cell?, e.blk g0]
  have d1 : ∀ W, Ext w3 W → W.cell? ⟨ga, 9, none⟩ = some (.slice a5 n5 m5) := fun W e => by simp [World.cell?, e.blk g0]
  have d2 : ∀ W, Ext w3 W → W.cell? ⟨ga, 10, none⟩ = some (.bool b6) := fun W e => by simp [World.cell?, e.blk g0]
  have d3 : ∀ W, Ext w3 W → W.cell? ⟨ga, 11, none⟩ = some (.slice a6 n6 m6) := fun W e => by simp [World.cell?, e.blk g0]
  have hga3 : ga < w3.heap.size := (Array.getElem?_eq_some_iff.1 g0).1
  replace g3 := mkHid g3
  clear g0 g1 g2
  apply region_ext [.val _, .pred (fun W v => FracR W v 1), .val _, .val _, .val _, .val _] (by kernel_rfl) (stable_vals _ (st_fracR _ (stable_vals _ (stable_vals _ (stable_vals _ (stable_vals _ trivial))))))
  refine ⟨fun W hW _ => by go_simp; exact ⟨Ext.refl _, rfl⟩, ?_⟩
  refine ⟨fun W hW _ => ?g1, fun v1 => ?_⟩
  case g1 =>
    go_simp
    refine (ko.out W).mono ?_
    rintro e w' ⟨v, rfl, e1, e2⟩
    exact ⟨v, rfl, e1, e2.r⟩
  iterate 4 (refine ⟨fun W hW _ => by go_simp; exact ⟨Ext.refl _, rfl⟩, ?_⟩)
  intro W hW hF
  have dd : FracR W v1 1 := hF.1 rfl
  obtain ⟨x1, x2, x3, x4, y1, y2, y3, y4, rfl⟩ := dd.shape
  clear hF c0 c1 c2 c3 d0 d1 d2 d3
  have hEb := (Ext.refl W).al (.cells #[.bool p1, .slice q1 r1 s1, .bool p2, .slice q2 r2 s2, .bool x1, .slice x2 x3 x4, .bool y1, .slice y2 y3 y4, .bool b5, .slice a5 n5 m5, .bool b6, .slice a6 n6 m6] 80)
  have hB : RowAt (W.alloc (.cells #[.bool p1, .slice q1 r1 s1, .bool p2, .slice q2 r2 s2, .bool x1, .slice x2 x3 x4, .bool y1, .slice y2 y3 y4, .bool b5, .slice a5 n5 m5, .bool b6, .slice a6 n6 m6] 80)) W.heap.size x 1 (x + x) :=
    ⟨_, _, _, _, _, _, _, _, _, _, _, _, _, _, _, _, _, _, _, _, _, _, _, _, heap_alloc_new _ _, (fx.out.ext hW).ext hEb, dd.ext hEb, (g3.out.ext hW).ext hEb⟩
  replace hB := mkHid hB
  replace hA := mkHid ((hA.out.ext hW).ext hEb)
  replace hE := mkHid ((hE.out.trans hW).trans hEb)
  have hgb : ga < W.heap.size := Nat.lt_of_lt_of_le hga3 hW.size
  replace z1 := mkHid (hEb.blk (hW.blk z1.out))
  replace z2 := mkHid (hEb.blk (hW.blk z2.out))
  clear dd z0 fx g3 hEb hW
  go_simp
  go_wp2_with fail
  obtain ⟨wm, hwm⟩ : ∃ wm, wm = W.alloc (.cells #[.bool p1, .slice q1 r1 s1, .bool p2, .slice q2 r2 s2, .bool x1, .slice x2 x3 x4, .bool y1, .slice y2 y3 y4, .bool b5, .slice a5 n5 m5, .bool b6, .slice a6 n6 m6] 80) := ⟨_, rfl⟩
  have hsm : wm.heap.size = W.heap.size + 1 := by rw [hwm]; simp
  rw [← hwm] at hB hA hE z1 z2
  rw [← hwm]
  clear hwm
  have hEs := (Ext.refl wm).al (.cells #[.func (.func 65) #[.pointer (some ⟨ga, 0, none⟩)] #[], .func (.func 65) #[.pointer (some ⟨W.heap.size, 0, none⟩)] #[]] 1)
  have hgs := heap_at wm (.cells #[.func (.func 65) #[.pointer (some ⟨ga, 0, none⟩)] #[], .func (.func 65) #[.pointer (some ⟨W.heap.size, 0, none⟩)] #[]] 1) (W.heap.size + 1) hsm.symm
  refine (many2_c ga W.heap.size (W.heap.size + 1) 2 n (x + x) (x + x) (0, 1) (x, 1) _ hn (by omega) (by omega) (by omega) big1.out big2.out hgs (hA.out.ext hEs) (hB.out.ext hEs)).mono ?_
  rintro e w5 ⟨rfl, hR, hA5, hB5⟩
  have hwg : w.heap.size + 1 + 1 < ga := by omega
  replace hE := mkHid (hR.ext w (hE.out.trans hEs) (by omega) (by omega))
  replace z1 := mkHid (hR.blk _ _ (by omega) (by omega) (hEs.blk z1.out))
  replace z2 := mkHid (hR.blk _ _ (by omega) (by omega) (hEs.blk z2.out))
  have bu := (big1.out.2 n (Nat.le_refl _)).2
  have bt := (big2.out.2 n (Nat.le_refl _)).2
  replace hA5 := mkHid hA5
  replace hB5 := mkHid hB5
  clear hR hEs hgs hA hB hsm
  go_wp2_with fail
  have eU : (itR (x + x) n (0, 1)).2 = chebU n x := rfl
  have eT : (itR (x + x) n (x, 1)).2 = chebT n x := rfl
  rw [eU] at bu hA5
  rw [eT] at bt hB5
  have hOE : chebE n x = if nf (chebU n x) ≤ 2048 ∧ nf (chebT n x) ≤ 2048 then 0 else 4 := rfl
  have hOU : chebOU n x = if nf (chebU n x) ≤ 2048 ∧ nf (chebT n x) ≤ 2048 then some (chebU n x) else none := rfl
  have hOT : chebOT n x = if nf (chebU n x) ≤ 2048 ∧ nf (chebT n x) ≤ 2048 then some (chebT n x) else none := rfl
  have kan := mkHid (fun W g h => answer_f g 2 [chebU n x, chebT n x] W (by simp) (fun y hy => by simp at hy; rcases hy with rfl | rfl <;> omega) h)
  generalize chebU n x = U at *
  generalize chebT n x = V at *
  obtain ⟨C, hC⟩ : ∃ C : Int, C = if ([U, V].any fun x => decide (2048 < nf x)) = true then 4 else 0 := ⟨_, rfl⟩
  rw [← hC] at kan
  replace hC := mkHid hC
  replace hOE := mkHid hOE
  replace hOU := mkHid hOU
  replace hOT := mkHid hOT
  obtain ⟨ab1, aa1, an1, am1, ab2, aa2, an2, am2, ab3, aa3, an3, am3, ab4, aa4, an4, am4, ab5, aa5, an5, am5, ab6, aa6, an6, am6, ag0, ag1, ag2, ag3⟩ := hA5.out
  obtain ⟨bb1, ba1, bn1, bm1, bb2, ba2, bn2, bm2, bb3, ba3, bn3, bm3, bb4, ba4, bn4, bm4, bb5, ba5, bn5, bm5, bb6, ba6, bn6, bm6, bg0, bg1, bg2, bg3⟩ := hB5.out
  have c0 : ∀ W', Ext w5 W' → W'.cell? ⟨ga, 4, none⟩ = some (.bool ab3) := fun W e => by simp [World.cell?, e.blk ag0]
  have c1 : ∀ W', Ext w5 W' → W'.cell? ⟨ga, 5, none⟩ = some (.slice aa3 an3 am3) := fun W e => by simp [World.cell?, e.blk ag0]
  have c2 : ∀ W', Ext w5 W' → W'.cell? ⟨ga, 6, none⟩ = some (.bool ab4) := fun W e => by simp [World.cell?, e.blk ag0]
  have c3 : ∀ W', Ext w5 W' → W'.cell? ⟨ga, 7, none⟩ = some (.slice aa4 an4 am4) := fun W e => by simp [World.cell?, e.blk ag0]
  have d0 : ∀ W', Ext w5 W' → W'.cell? ⟨W.heap.size, 4, none⟩ = some (.bool bb3) := fun W e => by simp [World.cell?, e.blk bg0]
  have d1 : ∀ W', Ext w5 W' → W'.cell? ⟨W.heap.size, 5, none⟩ = some (.slice ba3 bn3 bm3) := fun W e => by simp [World.cell?, e.blk bg0]
  have d2 : ∀ W', Ext w5 W' → W'.cell? ⟨W.heap.size, 6, none⟩ = some (.bool bb4) := fun W e => by simp [World.cell?, e.blk bg0]
  have d3 : ∀ W', Ext w5 W' → W'.cell? ⟨W.heap.size, 7, none⟩ = some (.slice ba4 bn4 bm4) := fun W e => by simp [World.cell?, e.blk bg0]
  clear ag0 ag1 ag3 bg0 bg1 bg3
  replace ag2 := mkHid ag2
  replace bg2 := mkHid bg2
  apply region_ext [.val _, .val _, .val _, .val _, .val _, .val _, .val _, .val _, .pred (SlR [U, V] 2), .val (.int .i64 C)] (by kernel_rfl) (stable_vals _ (stable_vals _ (stable_vals _ (stable_vals _ (stable_vals _ (stable_vals _ (stable_vals _ (stable_vals _ (st_slR _ _ (stable_vals _ trivial))))))))))
  iterate 8 (refine ⟨fun W hW _ => by go_simp; exact ⟨Ext.refl _, rfl⟩, ?_⟩)
  refine ⟨fun W' hW' _ => ?g8, fun v8 => ⟨fun W' hW' hF => ?g9, fun W' hW' hF => ?fin⟩⟩
  case g8 =>
    have hEc := (Ext.refl W').al (.cells #[.bool ab3, .slice aa3 an3 am3, .bool ab4, .slice aa4 an4 am4, .bool bb3, .slice ba3 bn3 bm3, .bool bb4, .slice ba4 bn4 bm4] 26)
    have hl := lr_two (heap_alloc_new W' (.cells #[.bool ab3, .slice aa3 an3 am3, .bool ab4, .slice aa4 an4 am4, .bool bb3, .slice ba3 bn3 bm3, .bool bb4, .slice ba4 bn4 bm4] 26)) ((ag2.out.ext hW').ext hEc) ((bg2.out.ext hW').ext hEc)
    replace hl := mkHid hl
    replace hEc := mkHid hEc
    go_simp
    exact ⟨hEc.out, _, rfl, hl.out⟩
  case g9 =>
    have h8 : SlR [U, V] 2 W' v8 := hF.1 (by kernel_rfl)
    obtain ⟨g, rfl, hl⟩ := h8
    clear hF
    go_simp
    refine (kan.out W' g hl).mono ?_
    rintro e w' ⟨rfl, h1⟩
    exact ⟨rfl, h1⟩
  case fin =>
    clear hF
    replace hE := mkHid (hE.out.trans hW')
    replace z1 := mkHid (hW'.blk z1.out)
    replace z2 := mkHid (hW'.blk z2.out)
    replace hA5 := mkHid (hA5.out.ext hW')
    replace hB5 := mkHid (hB5.out.ext hW')
    have eC : C = if nf U ≤ 2048 ∧ nf V ≤ 2048 then 0 else 4 := by
      rw [hC.out]
      by_cases u1 : nf U ≤ 2048 <;> by_cases u2 : nf V ≤ 2048 <;> simp [u1, u2, Nat.not_lt] <;> omega
    replace hW' := mkHid hW'
    have kcu := mkHid (fun W (h : FracR W (.agg #[.bool ab3, .slice aa3 an3 am3, .bool ab4, .slice aa4 an4 am4]) U) => copy_f _ U W (by omega) h)
    have kcv := mkHid (fun W (h : FracR W (.agg #[.bool bb3, .slice ba3 bn3 bm3, .bool bb4, .slice ba4 bn4 bm4]) V) => copy_f _ V W (by omega) h)
    by_cases hh : nf U ≤ 2048 ∧ nf V ≤ 2048
    · rw [if_pos hh] at eC
      subst eC
      go_simp
      go_wp2_with fail
      replace c0 := fun W (e : Ext W' W) => c0 W (hW'.out.trans e)
      replace c1 := fun W (e : Ext W' W) => c1 W (hW'.out.trans e)
      replace c2 := fun W (e : Ext W' W) => c2 W (hW'.out.trans e)
      replace c3 := fun W (e : Ext W' W) => c3 W (hW'.out.trans e)
      replace d0 := fun W (e : Ext W' W) => d0 W (hW'.out.trans e)
      replace d1 := fun W (e : Ext W' W) => d1 W (hW'.out.trans e)
      replace d2 := fun W (e : Ext W' W) => d2 W (hW'.out.trans e)
      replace d3 := fun W (e : Ext W' W) => d3 W (hW'.out.trans e)
      apply region_ext [.val _, .val _, .val _, .val _, .pred (fun W v => FracR W v U), .val _, .val _, .val _, .val _, .pred (fun W v => FracR W v V)] (by kernel_rfl) (stable_vals _ (stable_vals _ (stable_vals _ (stable_vals _ (st_fracR _ (stable_vals _ (stable_vals _ (stable_vals _ (stable_vals _ (st_fracR _ trivial))))))))))
      iterate 4 (refine ⟨fun W hW _ => by go_simp; exact ⟨Ext.refl _, rfl⟩, ?_⟩)
      refine ⟨fun W hW _ => ?u4, fun v4 => ?_⟩
      case u4 =>
        go_simp
        refine (kcu.out W (ag2.out.ext (hW'.out.trans hW))).mono ?_
        rintro e w' ⟨v, rfl, e1, e2⟩
        exact ⟨v, rfl, e1, e2.r⟩
      iterate 4 (refine ⟨fun W hW _ => by go_simp; exact ⟨Ext.refl _, rfl⟩, ?_⟩)
      refine ⟨fun W hW _ => ?u9, fun v9 => fun W hW hF => ?last⟩
      case u9 =>
        go_simp
        refine (kcv.out W (bg2.out.ext (hW'.out.trans hW))).mono ?_
        rintro e w' ⟨v, rfl, e1, e2⟩
        exact ⟨v, rfl, e1, e2.r⟩
      case last =>
        have f9 : FracR W v9 V := hF.1 rfl
        have f4 : FracR W v4 U := hF.2.1 rfl
        obtain ⟨x1, x2, x3, x4, x5, x6, x7, x8, rfl⟩ := f4.shape
        obtain ⟨y1, y2, y3, y4, y5, y6, y7, y8, rfl⟩ := f9.shape
        clear hF c0 c1 c2 c3 d0 d1 d2 d3
        have y1' := hW.blk z1.out
        have y2' := hW.blk z2.out
        have zrows := two_rows W (w.heap.size + 1) (w.heap.size + 1 + 1) #[.bool x1, .slice x2 x3 x4, .bool x5, .slice x6 x7 x8] #[.bool y1, .slice y2 y3 y4, .bool y5, .slice y6 y7 y8] _ _ _ (by omega) y1' y2'
        have FE := ((hE.out.trans hW).row (show w.heap.size ≤ w.heap.size + 1 by omega) #[.bool x1, .slice x2 x3 x4, .bool x5, .slice x6 x7 x8]).row (show w.heap.size ≤ w.heap.size + 1 + 1 by omega) #[.bool y1, .slice y2 y3 y4, .bool y5, .slice y6 y7 y8]
        have FU := ((f4.flat y1' (by simp [flatV]) #[.bool x1, .slice x2 x3 x4, .bool x5, .slice x6 x7 x8]).flat zrows.2.2 (by simp [flatV]) #[.bool y1, .slice y2 y3 y4, .bool y5, .slice y6 y7 y8]).any (by omega)
        have FV := ((f9.flat y1' (by simp [flatV]) #[.bool x1, .slice x2 x3 x4, .bool x5, .slice x6 x7 x8]).flat zrows.2.2 (by simp [flatV]) #[.bool y1, .slice y2 y3 y4, .bool y5, .slice y6 y7 y8]).any (by omega)
        rw [if_pos hh.1] at FU
        rw [if_pos hh.2] at FV
        replace y1' := mkHid y1'
        replace zrows := mkHid zrows
        replace FE := mkHid FE
        replace FU := mkHid FU
        replace FV := mkHid FV
        clear f4 f9 hW y2'
        go_simp
        go_wp2_with (first
          | (refine wpList_store_row rfl 26 (.tmp 4) (.tmp 59) rfl (w.heap.size + 1) #[.bool x1, .slice x2 x3 x4, .bool x5, .slice x6 x7 x8] rfl rfl 26 _ y1'.out (by kernel_rfl) rfl (by kernel_rfl) ?_)
          | (refine wpList_store_row rfl 26 (.tmp 5) (.tmp 64) rfl (w.heap.size + 1 + 1) #[.bool y1, .slice y2 y3 y4, .bool y5, .slice y6 y7 y8] rfl rfl 26 _ zrows.out.2.2 (by kernel_rfl) rfl (by kernel_rfl) ?_))
        exact bodyPost_ret (results_row2_tmp rfl _ _ (w.heap.size + 1) (w.heap.size + 1 + 1) 26 #[.bool x1, .slice x2 x3 x4, .bool x5, .slice x6 x7 x8] #[.bool y1, .slice y2 y3 y4, .bool y5, .slice y6 y7 y8] _ _ rfl rfl rfl zrows.out.1 zrows.out.2.1 Tryz.underlying26 rfl (by kernel_rfl) (by kernel_rfl)) rfl ⟨_, _, (by rw [hOE.out, if_pos hh]; rfl), FE.out, by rw [hOU.out, if_pos hh]; exact FU.out, by rw [hOT.out, if_pos hh]; exact FV.out⟩
    · rw [if_neg hh] at eC
      subst eC
      replace hh := mkHid hh
      go_simp
      have zrows := two_rows W' (w.heap.size + 1) (w.heap.size + 1 + 1) #[.bool false, .slice none 0 0, .bool false, .slice none 0 0] #[.bool false, .slice none 0 0, .bool false, .slice none 0 0] _ _ _ (by omega) z1.out z2.out
      have FE := (hE.out.row (show w.heap.size ≤ w.heap.size + 1 by omega) #[.bool false, .slice none 0 0, .bool false, .slice none 0 0]).row (show w.heap.size ≤ w.heap.size + 1 + 1 by omega) #[.bool false, .slice none 0 0, .bool false, .slice none 0 0]
      have FR := any_zero ((W'.setRow (w.heap.size + 1) #[.bool false, .slice none 0 0, .bool false, .slice none 0 0]).setRow (w.heap.size + 1 + 1) #[.bool false, .slice none 0 0, .bool false, .slice none 0 0])
      replace zrows := mkHid zrows
      replace FE := mkHid FE
      replace FR := mkHid FR
      go_wp2_with (first
        | (refine wpList_store_row rfl 26 (.tmp 4) (.tmp 52) rfl (w.heap.size + 1) #[.bool false, .slice none 0 0, .bool false, .slice none 0 0] rfl rfl 26 _ z1.out (by kernel_rfl) rfl (by kernel_rfl) ?_)
        | (refine wpList_store_row rfl 26 (.tmp 5) (.tmp 53) rfl (w.heap.size + 1 + 1) #[.bool false, .slice none 0 0, .bool false, .slice none 0 0] rfl rfl 26 _ zrows.out.2.2 (by kernel_rfl) rfl (by kernel_rfl) ?_))
      exact bodyPost_ret (results_row2_tmp rfl _ _ (w.heap.size + 1) (w.heap.size + 1 + 1) 26 #[.bool false, .slice none 0 0, .bool false, .slice none 0 0] #[.bool false, .slice none 0 0, .bool false, .slice none 0 0] _ _ rfl rfl rfl zrows.out.1 zrows.out.2.1 Tryz.underlying26 rfl (by kernel_rfl) (by kernel_rfl)) rfl ⟨_, _, (by rw [hOE.out, if_neg hh.out]; rfl), FE.out, by rw [hOU.out, if_neg hh.out]; exact FR.out, by rw [hOT.out, if_neg hh.out]; exact FR.out⟩
end Go.Proofs.YtpmfohhpaoagfaaGreat
namespace Go.Proofs.YtpmfohhpaoagfaaGreat
open Go Go.RowKit Go.Proofs

set_option maxHeartbeats 3200000 in
theorem det_f (v1 v2 v3 v4 : Value) (x y z t : Rat) (w : World) (hX1 : nf x ≤ 67108864) (hX2 : nf y ≤ 67108864) (hX3 : nf z ≤ 67108864) (hX4 : nf t ≤ 67108864) (h1 : FracR w v1 x) (h2 : FracR w v2 y) (h3 : FracR w v3 z) (h4 : FracR w v4 t) :
    Calls Tryz.prog 42 #[v1, v2, v3, v4] w fun e w' => ∃ v, e = .returned v ∧ Ext w w' ∧ FracO w' w.heap.size v (x * t - y * z) := by
  have H1 := h1
  have H2 := h2
  have H3 := h3
  have H4 := h4
  obtain ⟨p1, q1, r1, s1, t1, u1, f1, g1, rfl⟩ := h1.shape
  obtain ⟨p2, q2, r2, s2, t2, u2, f2, g2, rfl⟩ := h2.shape
  obtain ⟨p3, q3, r3, s3, t3, u3, f3, g3, rfl⟩ := h3.shape
  obtain ⟨p4, q4, r4, s4, t4, u4, f4, g4, rfl⟩ := h4.shape
  have bn1 : nl x.num ≤ 67108864 := Nat.le_trans (Nat.le_max_left _ _) hX1
  have bd1 : nl (x.den : Int) ≤ 67108864 := Nat.le_trans (Nat.le_max_right _ _) hX1
  have bn2 : nl y.num ≤ 67108864 := Nat.le_trans (Nat.le_max_left _ _) hX2
  have bd2 : nl (y.den : Int) ≤ 67108864 := Nat.le_trans (Nat.le_max_right _ _) hX2
  have bn3 : nl z.num ≤ 67108864 := Nat.le_trans (Nat.le_max_left _ _) hX3
  have bd3 : nl (z.den : Int) ≤ 67108864 := Nat.le_trans (Nat.le_max_right _ _) hX3
  have bn4 : nl t.num ≤ 67108864 := Nat.le_trans (Nat.le_max_left _ _) hX4
  have bd4 : nl (t.den : Int) ≤ 67108864 := Nat.le_trans (Nat.le_max_right _ _) hX4
  have m1 := nf_mul_le x t
  have m2 := nf_mul_le y z
  have tA := mkHid (fun w h h' => times_f (.agg #[.bool p1, .slice q1 r1 s1, .bool t1, .slice u1 f1 g1]) (.agg #[.bool p4, .slice q4 r4 s4, .bool t4, .slice u4 f4 g4]) x t w (by omega) (by omega) h h')
  have tB := mkHid (fun w h h' => times_f (.agg #[.bool p2, .slice q2 r2 s2, .bool t2, .slice u2 f2 g2]) (.agg #[.bool p3, .slice q3 r3 s3, .bool t3, .slice u3 f3 g3]) y z w (by omega) (by omega) h h')
  have pm := mkHid (fun v w v' h h' => minus_f v v' (x * t) (y * z) w (by omega) (by omega) h h')
  clear m1 m2
  replace H1 := mkHid H1
  replace H2 := mkHid H2
  replace H3 := mkHid H3
  replace H4 := mkHid H4
  clear h1 h2 h3 h4
  go_enter Tryz.func42, Tryz.ntmps42
  go_wp2_with fail
  obtain ⟨wb, hwb⟩ : ∃ wb, wb = (((((w.alloc (.cells #[.bool p1, .slice q1 r1 s1, .bool t1, .slice u1 f1 g1] 26)).alloc (.cells #[.bool p2, .slice q2 r2 s2, .bool t2, .slice u2 f2 g2] 26)).alloc (.cells #[.bool p3, .slice q3 r3 s3, .bool t3, .slice u3 f3 g3] 26)).alloc (.cells #[.bool p4, .slice q4 r4 s4, .bool t4, .slice u4 f4 g4] 26)).alloc (.cells #[.bool false, .slice none 0 0, .bool false, .slice none 0 0] 26)) := ⟨_, rfl⟩
  have hE : Ext w wb := by rw [hwb]; exact ((((((Ext.refl w).al _).al _).al _).al _).al _)
  have c10 : ∀ W, Ext wb W → W.cell? ⟨w.heap.size, 0, none⟩ = some (.bool p1) := fun W e => e.cell (by rw [hwb]; go_simp)
  have c11 : ∀ W, Ext wb W → W.cell? ⟨w.heap.size, 1, none⟩ = some (.slice q1 r1 s1) := fun W e => e.cell (by rw [hwb]; go_simp)
  have c12 : ∀ W, Ext wb W → W.cell? ⟨w.heap.size, 2, none⟩ = some (.bool t1) := fun W e => e.cell (by rw [hwb]; go_simp)
  have c13 : ∀ W, Ext wb W → W.cell? ⟨w.heap.size, 3, none⟩ = some (.slice u1 f1 g1) := fun W e => e.cell (by rw [hwb]; go_simp)
  have c20 : ∀ W, Ext wb W → W.cell? ⟨w.heap.size + 1, 0, none⟩ = some (.bool p2) := fun W e => e.cell (by rw [hwb]; go_simp)
  have c21 : ∀ W, Ext wb W → W.cell? ⟨w.heap.size + 1, 1, none⟩ = some (.slice q2 r2 s2) := fun W e => e.cell (by rw [hwb]; go_simp)
  have c22 : ∀ W, Ext wb W → W.cell? ⟨w.heap.size + 1, 2, none⟩ = some (.bool t2) := fun W e => e.cell (by rw [hwb]; go_simp)
  have c23 : ∀ W, Ext wb W → W.cell? ⟨w.heap.size + 1, 3, none⟩ = some (.slice u2 f2 g2) := fun W e => e.cell (by rw [hwb]; go_simp)
  have c30 : ∀ W, Ext wb W → W.cell? ⟨w.heap.size + 2, 0, none⟩ = some (.bool p3) := fun W e => e.cell (by rw [hwb]; go_simp)
  have c31 : ∀ W, Ext wb W → W.cell? ⟨w.heap.size + 2, 1, none⟩ = some (.slice q3 r3 s3) := fun W e => e.cell (by rw [hwb]; go_simp)
  have c32 : ∀ W, Ext wb W → W.cell? ⟨w.heap.size + 2, 2, none⟩ = some (.bool t3) := fun W e => e.cell (by rw [hwb]; go_simp)
  have c33 : ∀ W, Ext wb W → W.cell? ⟨w.heap.size + 2, 3, none⟩ = some (.slice u3 f3 g3) := fun W e => e.cell (by rw [hwb]; go_simp)
  have c40 : ∀ W, Ext wb W → W.cell? ⟨w.heap.size + 3, 0, none⟩ = some (.bool p4) := fun W e => e.cell (by rw [hwb]; go_simp)
  have c41 : ∀ W, Ext wb W → W.cell? ⟨w.heap.size + 3, 1, none⟩ = some (.slice q4 r4 s4) := fun W e => e.cell (by rw [hwb]; go_simp)
  have c42 : ∀ W, Ext wb W → W.cell? ⟨w.heap.size + 3, 2, none⟩ = some (.bool t4) := fun W e => e.cell (by rw [hwb]; go_simp)
  have c43 : ∀ W, Ext wb W → W.cell? ⟨w.heap.size + 3, 3, none⟩ = some (.slice u4 f4 g4) := fun W e => e.cell (by rw [hwb]; go_simp)
  have hB : ∀ W, Ext wb W → W.heap[w.heap.size + 4]? = some (.cells #[.bool false, .slice none 0 0, .bool false, .slice none 0 0] 26) := fun W e => e.blk (by rw [hwb]; exact heap_at _ _ _ (by simp))
  have hsz : w.heap.size + 5 ≤ wb.heap.size := by rw [hwb]; simp
  replace H1 := mkHid (H1.out.ext hE)
  replace H2 := mkHid (H2.out.ext hE)
  replace H3 := mkHid (H3.out.ext hE)
  replace H4 := mkHid (H4.out.ext hE)
  rw [← hwb]
  replace hB := mkHid hB
  replace hE := mkHid hE
  clear hwb
  apply region_ext [.val _, .val _, .pred (fun W v => FracO W (w.heap.size + 5) v (x * t)), .val _, .val _, .pred (fun W v => FracO W (w.heap.size + 5) v (y * z)), .pred (fun W v => FracO W (w.heap.size + 5) v (x * t - y * z))] (by kernel_rfl) (stable_vals _ (stable_vals _ (st_fracO _ _ (stable_vals _ (stable_vals _ (st_fracO _ _ (st_fracO _ _ trivial)))))))
  refine ⟨fun W hW _ => by go_simp; exact ⟨Ext.refl _, rfl⟩, ?_⟩
  refine ⟨fun W hW _ => by go_simp; exact ⟨Ext.refl _, rfl⟩, ?_⟩
  refine ⟨fun W hW hF => ?g2, fun v102 => ?_⟩
  case g2 =>
    clear hF
    go_simp
    refine (tA.out W (H1.out.ext hW) (H4.out.ext hW)).mono ?_
    rintro e w' ⟨v, rfl, h1, h2⟩
    exact ⟨v, rfl, h1, h2.mono (Nat.le_trans hsz hW.size)⟩
  refine ⟨fun W hW _ => by go_simp; exact ⟨Ext.refl _, rfl⟩, ?_⟩
  refine ⟨fun W hW _ => by go_simp; exact ⟨Ext.refl _, rfl⟩, ?_⟩
  refine ⟨fun W hW hF => ?g5, fun v105 => ?_⟩
  case g5 =>
    clear hF
    go_simp
    refine (tB.out W (H2.out.ext hW) (H3.out.ext hW)).mono ?_
    rintro e w' ⟨v, rfl, h1, h2⟩
    exact ⟨v, rfl, h1, h2.mono (Nat.le_trans hsz hW.size)⟩
  refine ⟨fun W hW hF => ?g6, fun v106 => fun W hW hF => ?fin⟩
  case g6 =>
    have d2 : FracO W (w.heap.size + 5) v102 (x * t) := hF.2.1 (by kernel_rfl)
    replace d2 := mkHid d2
    have d5 : FracO W (w.heap.size + 5) v105 (y * z) := hF.1 (by kernel_rfl)
    replace d5 := mkHid d5
    clear hF
    go_simp
    refine (pm.out _ W _ d2.out.r d5.out.r).mono ?_
    rintro e w' ⟨v, rfl, h1, h2⟩
    exact ⟨v, rfl, h1, h2.mono (Nat.le_trans hsz hW.size)⟩
  case fin =>
    have d6 : FracO W (w.heap.size + 5) v106 (x * t - y * z) := hF.1 rfl
    obtain ⟨x1, x2, x3, x4, y1, y2, y3, y4, rfl⟩ := d6.r.shape
    have R := d6
    have hBW := hB.out W hW
    have FR := ((R.row (g := w.heap.size + 4) (by omega) #[.bool x1, .slice x2 x3 x4, .bool y1, .slice y2 y3 y4]).mono (show w.heap.size ≤ w.heap.size + 5 by omega))
    have FE := (hE.out.trans hW).row (show w.heap.size ≤ w.heap.size + 4 by omega) #[.bool x1, .slice x2 x3 x4, .bool y1, .slice y2 y3 y4]
    rw [show (x * t - y * z) = (x * t - y * z) from rfl] at FR
    replace FR := mkHid FR
    replace FE := mkHid FE
    clear hF R c10 c11 c12 c13 c20 c21 c22 c23 c30 c31 c32 c33 c40 c41 c42 c43 hW
    go_simp
    go_wp2_with (refine wpList_store_row rfl 26 (.tmp 8) (.tmp 15) rfl (w.heap.size + 4) #[.bool x1, .slice x2 x3 x4, .bool y1, .slice y2 y3 y4] rfl rfl 26 _ hBW (by kernel_rfl) rfl (by kernel_rfl) ?_)
    exact bodyPost_ret (results_cell_row rfl _ _ (w.heap.size + 4) 26 #[.bool x1, .slice x2 x3 x4, .bool y1, .slice y2 y3 y4] (0, 0) _ rfl (setRow_heap _ _ _ _ _ _ hBW) Tryz.underlying26 rfl (by kernel_rfl)) rfl ⟨_, rfl, FE.out, FR.out⟩
end Go.Proofs.YtpmfohhpaoagfaaGreat
namespace Go.Proofs.YtpmfohhpaoagfaaGreat
open Go Go.RowKit Go.Proofs
/-- What ray.Check answers of four values. -/
def okM (oa ob oc od : Option Rat) : Bool := match oa, ob, oc, od with
  | some a, some b, some c, some d => decide (a * d - b * c = 1)
  | _, _, _, _ => false
theorem cmp_zero (x y : Rat) : (x.num * y.den - y.num * x.den).sign = 0 ↔ x = y := by
  rw [Int.sign_eq_zero_iff_zero]
  constructor
  · intro h
    have e : x - y = 0 := by
      rw [← div_sub, h]
      simp
    grind
  · rintro rfl
    omega
theorem lf_four {w : World} {g : Nat} {b1 b2 b3 b4 b5 b6 b7 b8 : Bool} {a1 a2 a3 a4 a5 a6 a7 a8 : Option Addr} {n1 c1 n2 c2 n3 c3 n4 c4 n5 c5 n6 c6 n7 c7 n8 c8 : Nat} {o1 o2 o3 o4 : Option Rat} {T : Nat}
    (hg : w.heap[g]? = some (.cells #[.bool b1, .slice a1 n1 c1, .bool b2, .slice a2 n2 c2, .bool b3, .slice a3 n3 c3, .bool b4, .slice a4 n4 c4, .bool b5, .slice a5 n5 c5, .bool b6, .slice a6 n6 c6, .bool b7, .slice a7 n7 c7, .bool b8, .slice a8 n8 c8] T (0, 0)))
    (h1 : AnyF w (.agg #[.bool b1, .slice a1 n1 c1, .bool b2, .slice a2 n2 c2]) o1) (h2 : AnyF w (.agg #[.bool b3, .slice a3 n3 c3, .bool b4, .slice a4 n4 c4]) o2)
    (h3 : AnyF w (.agg #[.bool b5, .slice a5 n5 c5, .bool b6, .slice a6 n6 c6]) o3) (h4 : AnyF w (.agg #[.bool b7, .slice a7 n7 c7, .bool b8, .slice a8 n8 c8]) o4) : LF w g [o1, o2, o3, o4] := by
  intro k hk
  have hk2 : k = 0 ∨ k = 1 ∨ k = 2 ∨ k = 3 := by simp at hk; omega
  rcases hk2 with rfl | rfl | rfl | rfl
  · exact ⟨_, _, _, _, _, _, _, _, by simp [World.cell?, hg], by simp [World.cell?, hg], by simp [World.cell?, hg], by simp [World.cell?, hg], h1⟩
  · exact ⟨_, _, _, _, _, _, _, _, by simp [World.cell?, hg], by simp [World.cell?, hg], by simp [World.cell?, hg], by simp [World.cell?, hg], h2⟩
  · exact ⟨_, _, _, _, _, _, _, _, by simp [World.cell?, hg], by simp [World.cell?, hg], by simp [World.cell?, hg], by simp [World.cell?, hg], h3⟩
  · exact ⟨_, _, _, _, _, _, _, _, by simp [World.cell?, hg], by simp [World.cell?, hg], by simp [World.cell?, hg], by simp [World.cell?, hg], h4⟩
theorem okM_false {oa ob oc od : Option Rat} (h : [oa, ob, oc, od].all Option.isSome = false) : okM oa ob oc od = false := by
  cases oa <;> cases ob <;> cases oc <;> cases od <;> first | rfl | (simp at h)
theorem row16_cells {w : World} {g T : Nat} {c : Array Value} (h : w.heap[g]? = some (.cells c T (0, 0))) (k : Nat) : w.cell? ⟨g, k, none⟩ = c[k]? := by simp [World.cell?, h]
set_option maxRecDepth 100000 in
set_option maxHeartbeats 3200000 in
theorem check_m (v : Value) (oa ob oc od : Option Rat) (w : World) (h : AnyM w v oa ob oc od) :
    Calls Tryz.prog 18 #[v] w fun e w' => e = .returned (.int .i64 (if okM oa ob oc od then 0 else 1)) ∧ Ext w w' := by
  obtain ⟨b1, a1, n1, m1, b2, a2, n2, m2, b3, a3, n3, m3, b4, a4, n4, m4, b5, a5, n5, m5, b6, a6, n6, m6, b7, a7, n7, m7, b8, a8, n8, m8, rfl, h1, h2, h3, h4⟩ := h
  obtain ⟨wb, hwb⟩ : ∃ wb, wb = (w.alloc (.cells #[.bool b1, .slice a1 n1 m1, .bool b2, .slice a2 n2 m2, .bool b3, .slice a3 n3 m3, .bool b4, .slice a4 n4 m4, .bool b5, .slice a5 n5 m5, .bool b6, .slice a6 n6 m6, .bool b7, .slice a7 n7 m7, .bool b8, .slice a8 n8 m8] 28)).alloc (.cells #[.bool b1, .slice a1 n1 m1, .bool b2, .slice a2 n2 m2, .bool b3, .slice a3 n3 m3, .bool b4, .slice a4 n4 m4, .bool b5, .slice a5 n5 m5, .bool b6, .slice a6 n6 m6, .bool b7, .slice a7 n7 m7, .bool b8, .slice a8 n8 m8] 26) := ⟨_, rfl⟩
  have hE : Ext w wb := by rw [hwb]; exact ((Ext.refl w).al _).al _
  have z0 : wb.heap[w.heap.size]? = some (.cells #[.bool b1, .slice a1 n1 m1, .bool b2, .slice a2 n2 m2, .bool b3, .slice a3 n3 m3, .bool b4, .slice a4 n4 m4, .bool b5, .slice a5 n5 m5, .bool b6, .slice a6 n6 m6, .bool b7, .slice a7 n7 m7, .bool b8, .slice a8 n8 m8] 28 (0, 0)) := by rw [hwb]; exact (heap_alloc_old _ _ (by simp)).trans (heap_alloc_new _ _)
  have z1 : wb.heap[w.heap.size + 1]? = some (.cells #[.bool b1, .slice a1 n1 m1, .bool b2, .slice a2 n2 m2, .bool b3, .slice a3 n3 m3, .bool b4, .slice a4 n4 m4, .bool b5, .slice a5 n5 m5, .bool b6, .slice a6 n6 m6, .bool b7, .slice a7 n7 m7, .bool b8, .slice a8 n8 m8] 26 (0, 0)) := by rw [hwb]; exact heap_at _ _ _ (by simp)
  replace h1 := h1.ext hE
  replace h2 := h2.ext hE
  replace h3 := h3.ext hE
  replace h4 := h4.ext hE
  have kc := mkHid (checks_f (w.heap.size + 1) 4 [oa, ob, oc, od] wb (by simp) (lf_four z1 h1 h2 h3 h4))
  replace h1 := mkHid h1
  replace h2 := mkHid h2
  replace h3 := mkHid h3
  replace h4 := mkHid h4
  replace z0 := mkHid z0
  replace hE := mkHid hE
  replace hwb := mkHid hwb
  clear z1
  rw [show [oa, ob, oc, od].length = 4 from rfl] at kc
  obtain ⟨B, hB⟩ : ∃ B, B = [oa, ob, oc, od].all Option.isSome := ⟨_, rfl⟩
  rw [← hB] at kc
  cases B with
  | false =>
    have e : okM oa ob oc od = false := okM_false hB.symm
    rw [e, if_neg (by decide)]
    clear e hB
    go_enter Tryz.func18, Tryz.ntmps18
    go_wp2_with fail
    rw [← hwb.out]
    clear hwb
    refine kc.out.mono ?_
    rintro e w1 ⟨rfl, hE1⟩
    replace hE := mkHid (hE.out.trans hE1)
    clear hE1 kc
    go_wp2_with fail
    go_ret
    exact ⟨rfl, hE.out⟩
  | true =>
    have hs := hB.symm
    simp only [List.all_cons, List.all_nil, Bool.and_true, Bool.and_eq_true] at hs
    obtain ⟨i1, i2, i3, i4⟩ := hs
    obtain ⟨a, rfl⟩ := Option.isSome_iff_exists.1 i1
    obtain ⟨b, rfl⟩ := Option.isSome_iff_exists.1 i2
    obtain ⟨c, rfl⟩ := Option.isSome_iff_exists.1 i3
    obtain ⟨d, rfl⟩ := Option.isSome_iff_exists.1 i4
    clear i1 i2 i3 i4 hB
    obtain ⟨f1, e1⟩ := h1.out.frac
    obtain ⟨f2, e2⟩ := h2.out.frac
    obtain ⟨f3, e3⟩ := h3.out.frac
    obtain ⟨f4, e4⟩ := h4.out.frac
    have kd := mkHid (fun W (e : Ext wb W) => det_f (.agg #[.bool b1, .slice a1 n1 m1, .bool b2, .slice a2 n2 m2]) (.agg #[.bool b3, .slice a3 n3 m3, .bool b4, .slice a4 n4 m4]) (.agg #[.bool b5, .slice a5 n5 m5, .bool b6, .slice a6 n6 m6]) (.agg #[.bool b7, .slice a7 n7 m7, .bool b8, .slice a8 n8 m8]) a b c d W (by omega) (by omega) (by omega) (by omega) (f1.ext e) (f2.ext e) (f3.ext e) (f4.ext e))
    have nd : nf (a * d - b * c) ≤ 268435456 := by
      have := nf_sub_le (a * d) (b * c)
      have := nf_mul_le a d
      have := nf_mul_le b c
      omega
    have ko := mkHid one_f
    have n1 : nf 1 ≤ 268435456 := by unfold nf; exact Nat.max_le.2 ⟨Nat.le_trans (nl_small (by decide)) (by decide), Nat.le_trans (nl_small (by decide)) (by decide)⟩
    have kp := mkHid (fun v v' W h h' => cmp_f v v' (a * d - b * c) 1 W nd n1 h h')
    rw [show okM (some a) (some b) (some c) (some d) = decide (a * d - b * c = 1) from rfl]
    have hz := cmp_zero (a * d - b * c) 1
    obtain ⟨S, hS⟩ : ∃ S, S = ((a * d - b * c).num * (1 : Rat).den - (1 : Rat).num * (a * d - b * c).den).sign := ⟨_, rfl⟩
    rw [← hS] at kp hz
    replace hS := mkHid hS
    clear f1 f2 f3 f4 e1 e2 e3 e4 h1 h2 h3 h4 n1 nd
    have hSd : (if decide (a * d - b * c = 1) = true then (0 : Int) else 1) = (if (S == 0) = true then 0 else 1) := by
      by_cases u : a * d - b * c = 1
      · rw [decide_eq_true u, hz.2 u]; rfl
      · have : ¬ S = 0 := fun e => u (hz.1 e)
        rw [decide_eq_false u]
        simp [this]
    rw [hSd]
    clear hSd hz
    generalize a * d - b * c = D at *
    have kx : (S == 0) = true ∨ (S == 0) = false := by cases (S == 0) <;> simp
    rcases kx with kx | kx
    all_goals
      rw [kx]
      go_enter Tryz.func18, Tryz.ntmps18
      go_wp2_with fail
      rw [← hwb.out]
      clear hwb
      refine kc.out.mono ?_
      rintro e w1 ⟨rfl, hE1⟩
      have y0 : w1.cell? ⟨w.heap.size, 0, none⟩ = some (.bool b1) := row16_cells (hE1.blk z0.out) 0
      have y1 : w1.cell? ⟨w.heap.size, 1, none⟩ = some (.slice a1 n1 m1) := row16_cells (hE1.blk z0.out) 1
      have y2 : w1.cell? ⟨w.heap.size, 2, none⟩ = some (.bool b2) := row16_cells (hE1.blk z0.out) 2
      have y3 : w1.cell? ⟨w.heap.size, 3, none⟩ = some (.slice a2 n2 m2) := row16_cells (hE1.blk z0.out) 3
      have y4 : w1.cell? ⟨w.heap.size, 4, none⟩ = some (.bool b3) := row16_cells (hE1.blk z0.out) 4
      have y5 : w1.cell? ⟨w.heap.size, 5, none⟩ = some (.slice a3 n3 m3) := row16_cells (hE1.blk z0.out) 5
      have y6 : w1.cell? ⟨w.heap.size, 6, none⟩ = some (.bool b4) := row16_cells (hE1.blk z0.out) 6
      have y7 : w1.cell? ⟨w.heap.size, 7, none⟩ = some (.slice a4 n4 m4) := row16_cells (hE1.blk z0.out) 7
      have y8 : w1.cell? ⟨w.heap.size, 8, none⟩ = some (.bool b5) := row16_cells (hE1.blk z0.out) 8
      have y9 : w1.cell? ⟨w.heap.size, 9, none⟩ = some (.slice a5 n5 m5) := row16_cells (hE1.blk z0.out) 9
      have y10 : w1.cell? ⟨w.heap.size, 10, none⟩ = some (.bool b6) := row16_cells (hE1.blk z0.out) 10
      have y11 : w1.cell? ⟨w.heap.size, 11, none⟩ = some (.slice a6 n6 m6) := row16_cells (hE1.blk z0.out) 11
      have y12 : w1.cell? ⟨w.heap.size, 12, none⟩ = some (.bool b7) := row16_cells (hE1.blk z0.out) 12
      have y13 : w1.cell? ⟨w.heap.size, 13, none⟩ = some (.slice a7 n7 m7) := row16_cells (hE1.blk z0.out) 13
      have y14 : w1.cell? ⟨w.heap.size, 14, none⟩ = some (.bool b8) := row16_cells (hE1.blk z0.out) 14
      have y15 : w1.cell? ⟨w.heap.size, 15, none⟩ = some (.slice a8 n8 m8) := row16_cells (hE1.blk z0.out) 15
      have hE1' := mkHid hE1
      replace hE := mkHid (hE.out.trans hE1)
      clear hE1 kc
      go_wp2_with fail
      refine (kd.out w1 hE1'.out).mono ?_
      rintro e w2 ⟨vd, rfl, hE2, hvd⟩
      replace hE := mkHid (hE.out.trans hE2)
      replace hvd := mkHid hvd.r
      clear hE2 kd y0 y1 y2 y3 y4 y5 y6 y7 y8 y9 y10 y11 y12 y13 y14 y15
      go_wp2_with fail
      refine (ko.out w2).mono ?_
      rintro e w3 ⟨vo, rfl, hE3, hvo⟩
      replace hE := mkHid (hE.out.trans hE3)
      replace hvd := mkHid (hvd.out.ext hE3)
      replace hvo := mkHid hvo.r
      clear hE3
      go_wp2_with fail
      refine (kp.out _ _ w3 hvd.out hvo.out).mono ?_
      rintro e w4 ⟨rfl, hE4⟩
      replace hE := mkHid (hE.out.trans hE4)
      clear hE4
      go_wp2_with fail
      go_ret
      exact ⟨rfl, hE.out⟩
end Go.Proofs.YtpmfohhpaoagfaaGreat
