/-
  ratio.Read: the fraction of a text, or none. The reference's catalogue: a list of parts that can be read, names rising; where a name stands. Plain law of a catalogue's text: lines and texts that are read. frac.Parse; catalog.number at a number's digits. catalog: Parse of the one text that law25's alive asks.
-/
import Derived.Test.YtjelnmokcpoofaaGreatDoorKAJ
import Derived.Test.YtjelnmokcpoofaaGreatDoorKAI
import Derived.Test.YtjelnmokcpoofaaGreatDoorKAG
import Derived.StringKeys
import Derived.WideKeyEntry
import Derived.OwnWalk
namespace Go.Proofs.YtjelnmokcpoofaaGreatDoor
set_option maxRecDepth 100000
open Go Go.RowKit Go.Proofs
def RatQ (w : World) (o : Option Rat) (e : Ending) (w' : World) : Prop :=
  ∃ (f : FV) (b : Bool), e = .returned (.tuple #[.agg #[.bool f.b1, .slice f.a1 f.n1 f.c1, .bool f.b2, .slice f.a2 f.n2 f.c2], .bool b]) ∧ Ext w w' ∧ (o = none ∧ b = false ∨ ∃ x, o = some x ∧ b = true ∧ FracO w' w.heap.size (.agg #[.bool f.b1, .slice f.a1 f.n1 f.c1, .bool f.b2, .slice f.a2 f.n2 f.c2]) x)
theorem readI_nl {s : List UInt8} {X : Int} (h : readI s = some X) : nl X ≤ s.length := by
  unfold readI at h
  split at h
  · cases h
  · cases hd : Lib.decFrom 0 (bodyI s) with
    | none => rw [hd] at h; cases h
    | some n =>
      rw [hd] at h
      simp only [Option.map_some, Option.some.injEq] at h
      have hn := Lib.decFrom_lt _ _ _ hd
      rw [Nat.zero_add, Nat.one_mul] at hn
      have hX : X.natAbs = n := by
        subst h
        unfold sg
        split <;> omega
      unfold nl
      rw [hX]
      have h1 : (lim n).length ≤ (bodyI s).length := lim_length_le (Nat.lt_of_lt_of_le hn (Nat.pow_le_pow_left (by decide) _))
      have h2 : (bodyI s).length ≤ s.length := by
        unfold bodyI
        split
        · rw [List.length_tail]; omega
        · exact Nat.le_refl _
      omega
theorem str_len (l : List UInt8) : (⟨l.toArray⟩ : ByteArray).size = l.length := by
  show l.toArray.size = _
  rw [List.size_toArray]
theorem list_size (s : ByteArray) : s.data.toList.length = s.size := Array.length_toList
theorem readF_miss {s : List UInt8} (h : cutL 47 s = none) : readF s = (readI s).map fun (n : Int) => (n : Rat) := by
  unfold readF
  rw [h]
theorem readF_hit {s x y : List UInt8} (h : cutL 47 s = some (x, y)) : readF s = match readI x, readI y with
    | some n, some d => if 1 < d ∧ Int.gcd n d = 1 then some (Rat.divInt n d) else none
    | _, _ => none := by
  unfold readF
  rw [h]
  rfl
set_option maxHeartbeats 3200000 in
/-- No bar: a whole number, or none. Nothing ahead of the bar: none. -/
theorem ratRead_whole (s : ByteArray) (w : World) (x y : ByteArray) (bc : Bool) (hx : x.size ≤ 65536)
    (KC : ∀ W, Ext w W → Calls Tryz.prog 15 #[.string s, .string ⟨#[47]⟩] W fun e w' => e = .returned (.tuple #[.string x, .string y, .bool bc]) ∧ Ext W w')
    (hf : bc = false ∨ readI x.data.toList = none) :
    Calls Tryz.prog 76 #[.string s] w (RatQ w ((readI x.data.toList).map fun (n : Int) => (n : Rat))) := by
  obtain ⟨w1, hw1⟩ : ∃ w1, w1 = w.alloc (.cells #[.bool false, .slice none 0 0, .bool false, .slice none 0 0] 52) := ⟨_, rfl⟩
  have hE1 := mkHid (show Ext w w1 by rw [hw1]; exact (Ext.refl w).al _)
  have z1 := mkHid (show w1.heap[w.heap.size]? = some (.cells #[.bool false, .slice none 0 0, .bool false, .slice none 0 0] 52 (0, 0)) by rw [hw1]; exact heap_alloc_new _ _)
  have hz2 := mkHid (show w1.heap.size = w.heap.size + 1 by rw [hw1]; simp)
  have KR := mkHid (fun W => read_c x W hx)
  replace KC := mkHid KC
  replace hw1 := mkHid hw1
  generalize readI x.data.toList = o at *
  clear hx
  cases bc with
  | false =>
    clear hf
    go_enter Tryz.func76, Tryz.ntmps76
    have tok : Tok 0 := .mk _
    go_wp2_with (first
      | ((have _t : Tok 0 := tok); clear _t; clear tok; (have tok : Tok 1 := .mk _); go_at_call 15; rw [← hw1.out]; refine (KC.out w1 hE1.out).mono ?_; rintro e w2 ⟨rfl, hx2⟩; (have hE2 := mkHid (hE1.out.trans hx2)); (have z2 := mkHid (hx2.blk z1.out)); (have hl1 := mkHid hx2.size); clear hx2)
      | ((have _t : Tok 1 := tok); clear _t; clear tok; (have tok : Tok 2 := .mk _); go_at_call 125; refine (KR.out w2).mono ?_; rintro e w3 ⟨v, b, X, rfl, ho, hv, hx3⟩; skip; (obtain ⟨nb, na, nn, nc, rfl⟩ := hv.r.shape); (obtain ⟨w4, hw4⟩ : ∃ w4, w4 = w3.alloc (.cells #[.bool nb, .slice na nn nc] 50) := ⟨_, rfl⟩); (have hx4 : Ext w3 w4 := by rw [hw4]; exact (Ext.refl w3).al _); (have hE4 := mkHid ((hE2.out.trans hx3).trans hx4)); (have z4 := mkHid ((hx3.trans hx4).blk z2.out)); (have hv4 := mkHid (hv.ext hx4)); (have hl4 := mkHid (Nat.le_trans hx3.size hx4.size)); (have hl2 := mkHid hE2.out.size); replace ho := mkHid ho; replace hw4 := mkHid hw4; clear hx3 hx4 hE2 z2 hE1 z1 hw1 hv)
      | ((have _t : Tok 2 := tok); clear _t; clear tok; (have tok : Tok 3 := .mk _); go_at_call 126; rw [← hw4.out]; refine (whole_o _ X w2.heap.size w4 hv4.out hl4.out).mono ?_; rintro e w5 ⟨f, rfl, hx5, hf5⟩; (have z5 := mkHid (hx5.blk z4.out)); (have hE5 := mkHid ((hE4.out.trans hx5).row (Nat.le_refl _) #[.bool f.b1, .slice f.a1 f.n1 f.c1, .bool f.b2, .slice f.a2 f.n2 f.c2])); (have hf6 := mkHid (hf5.near (w' := w5.setRow w.heap.size #[.bool f.b1, .slice f.a1 f.n1 f.c1, .bool f.b2, .slice f.a2 f.n2 f.c2]) fun k hk => setRow_other _ _ _ _ (by have := (hf5.span k hk).1; have := hl1.out; have := hz2.out; omega))); clear hx5 hf5)
      | ((have _t : Tok 3 := tok); clear _t; clear tok; (have tok : Tok 4 := .mk _); refine wpList_store_row rfl 52 (.tmp 2) (.tmp 29) rfl w.heap.size #[.bool f.b1, .slice f.a1 f.n1 f.c1, .bool f.b2, .slice f.a2 f.n2 f.c2] rfl rfl 52 _ z5.out (by kernel_rfl) rfl (by kernel_rfl) ?_))
    refine bodyPost_ret (results_row_tmp rfl _ _ w.heap.size 52 #[.bool f.b1, .slice f.a1 f.n1 f.c1, .bool f.b2, .slice f.a2 f.n2 f.c2] _ _ rfl rfl (setRow_heap _ _ _ _ _ _ z5.out) Tryz.underlying52 rfl (by kernel_rfl)) rfl ?_
    refine ⟨f, _, rfl, hE5.out, ?_⟩
    rcases ho.out with ⟨h1, h2⟩ | ⟨h1, h2, h3⟩
    · exact .inr ⟨_, by rw [h1]; rfl, h2, hf6.out.mono (by have := hl2.out; omega)⟩
    · exact .inl ⟨by rw [h1]; rfl, h2⟩
  | true =>
    obtain rfl : o = none := by
      rcases hf with h | h
      · cases h
      · exact h
    go_enter Tryz.func76, Tryz.ntmps76
    have tok : Tok 0 := .mk _
    go_wp2_with (first
      | ((have _t : Tok 0 := tok); clear _t; clear tok; (have tok : Tok 1 := .mk _); go_at_call 15; rw [← hw1.out]; refine (KC.out w1 hE1.out).mono ?_; rintro e w2 ⟨rfl, hx2⟩; (have hE2 := mkHid (hE1.out.trans hx2)); (have z2 := mkHid (hx2.blk z1.out)); (have hl1 := mkHid hx2.size); clear hx2)
      | ((have _t : Tok 1 := tok); clear _t; clear tok; (have tok : Tok 2 := .mk _); go_at_call 125; refine (KR.out w2).mono ?_; rintro e w3 ⟨v, b, X, rfl, ho, hv, hx3⟩; (obtain rfl : b = false := (by rcases ho with ⟨h1, h2⟩ | ⟨h1, h2, h3⟩; cases h1; exact h2)); (obtain ⟨nb, na, nn, nc, rfl⟩ := hv.r.shape); (obtain ⟨w4, hw4⟩ : ∃ w4, w4 = w3.alloc (.cells #[.bool nb, .slice na nn nc] 50) := ⟨_, rfl⟩); (have hx4 : Ext w3 w4 := by rw [hw4]; exact (Ext.refl w3).al _); (have hE4 := mkHid ((hE2.out.trans hx3).trans hx4)); (have z4 := mkHid ((hx3.trans hx4).blk z2.out)); (have hv4 := mkHid (hv.ext hx4)); (have hl4 := mkHid (Nat.le_trans hx3.size hx4.size)); (have hl2 := mkHid hE2.out.size); replace ho := mkHid ho; replace hw4 := mkHid hw4; clear hx3 hx4 hE2 z2 hE1 z1 hw1 hv)
      | ((have _t : Tok 2 := tok); clear _t; clear tok; (have tok : Tok 3 := .mk _); go_at_call 126; rw [← hw4.out]; refine (whole_o _ X w2.heap.size w4 hv4.out hl4.out).mono ?_; rintro e w5 ⟨f, rfl, hx5, hf5⟩; (have z5 := mkHid (hx5.blk z4.out)); (have hE5 := mkHid ((hE4.out.trans hx5).row (Nat.le_refl _) #[.bool f.b1, .slice f.a1 f.n1 f.c1, .bool f.b2, .slice f.a2 f.n2 f.c2])); (have hf6 := mkHid (hf5.near (w' := w5.setRow w.heap.size #[.bool f.b1, .slice f.a1 f.n1 f.c1, .bool f.b2, .slice f.a2 f.n2 f.c2]) fun k hk => setRow_other _ _ _ _ (by have := (hf5.span k hk).1; have := hl1.out; have := hz2.out; omega))); clear hx5 hf5)
      | ((have _t : Tok 3 := tok); clear _t; clear tok; (have tok : Tok 4 := .mk _); refine wpList_store_row rfl 52 (.tmp 2) (.tmp 29) rfl w.heap.size #[.bool f.b1, .slice f.a1 f.n1 f.c1, .bool f.b2, .slice f.a2 f.n2 f.c2] rfl rfl 52 _ z5.out (by kernel_rfl) rfl (by kernel_rfl) ?_))
    refine bodyPost_ret (results_row_tmp rfl _ _ w.heap.size 52 #[.bool f.b1, .slice f.a1 f.n1 f.c1, .bool f.b2, .slice f.a2 f.n2 f.c2] _ _ rfl rfl (setRow_heap _ _ _ _ _ _ z5.out) Tryz.underlying52 rfl (by kernel_rfl)) rfl ?_
    refine ⟨f, _, rfl, hE5.out, ?_⟩
    exact .inl ⟨rfl, rfl⟩
set_option maxHeartbeats 3200000 in
/-- A bar, a number ahead of it, none behind it. -/
theorem ratRead_none (s : ByteArray) (w : World) (x y : ByteArray) (X : Int) (hx : x.size ≤ 65536) (hy : y.size ≤ 65536)
    (KC : ∀ W, Ext w W → Calls Tryz.prog 15 #[.string s, .string ⟨#[47]⟩] W fun e w' => e = .returned (.tuple #[.string x, .string y, .bool true]) ∧ Ext W w')
    (hX : readI x.data.toList = some X) (hY : readI y.data.toList = none) :
    Calls Tryz.prog 76 #[.string s] w (RatQ w none) := by
  obtain ⟨w1, hw1⟩ : ∃ w1, w1 = w.alloc (.cells #[.bool false, .slice none 0 0, .bool false, .slice none 0 0] 52) := ⟨_, rfl⟩
  have hE1 := mkHid (show Ext w w1 by rw [hw1]; exact (Ext.refl w).al _)
  have z1 := mkHid (show w1.heap[w.heap.size]? = some (.cells #[.bool false, .slice none 0 0, .bool false, .slice none 0 0] 52 (0, 0)) by rw [hw1]; exact heap_alloc_new _ _)
  have hz2 := mkHid (show w1.heap.size = w.heap.size + 1 by rw [hw1]; simp)
  have KR := mkHid (fun W => read_c x W hx)
  have KS := mkHid (fun W => read_c y W hy)
  replace KC := mkHid KC
  replace hw1 := mkHid hw1
  rw [hX] at KR
  rw [hY] at KS
  clear hX hY hx hy
  go_enter Tryz.func76, Tryz.ntmps76
  have tok : Tok 0 := .mk _
  go_wp2_with (first
    | ((have _t : Tok 0 := tok); clear _t; clear tok; (have tok : Tok 1 := .mk _); go_at_call 15; rw [← hw1.out]; refine (KC.out w1 hE1.out).mono ?_; rintro e w2 ⟨rfl, hx2⟩; (have hE2 := mkHid (hE1.out.trans hx2)); (have z2 := mkHid (hx2.blk z1.out)); (have hl1 := mkHid hx2.size); clear hx2)
    | ((have _t : Tok 1 := tok); clear _t; clear tok; (have tok : Tok 2 := .mk _); go_at_call 125; refine (KR.out w2).mono ?_; rintro e w3 ⟨v, b, X', rfl, ho, hv, hx3⟩; (obtain ⟨rfl, rfl⟩ : X = X' ∧ b = true := by (rcases ho with ⟨h1, h2⟩ | ⟨h1, h2, h3⟩; exact ⟨Option.some.inj h1, h2⟩; cases h1)); (obtain ⟨nb, na, nn, nc, rfl⟩ := hv.r.shape); (obtain ⟨w4, hw4⟩ : ∃ w4, w4 = w3.alloc (.cells #[.bool nb, .slice na nn nc] 50) := ⟨_, rfl⟩); (have hx4 : Ext w3 w4 := by rw [hw4]; exact (Ext.refl w3).al _); (have hE4 := mkHid ((hE2.out.trans hx3).trans hx4)); (have z4 := mkHid ((hx3.trans hx4).blk z2.out)); (have hv4 := mkHid (hv.ext hx4)); (have y4 := mkHid (show w4.heap[w3.heap.size]? = some (.cells #[.bool nb, .slice na nn nc] 50 (0, 0)) by rw [hw4]; exact heap_alloc_new _ _)); (have hl4 := mkHid (Nat.le_trans hx3.size hx4.size)); replace hw4 := mkHid hw4; clear ho hx3 hx4 hE2 z2 hE1 z1 hw1 hv)
    | ((have _t : Tok 2 := tok); clear _t; clear tok; (have tok : Tok 3 := .mk _); go_at_call 125; rw [← hw4.out]; refine (KS.out w4).mono ?_; rintro e w5 ⟨v, b, Y', rfl, ho, hv, hx5⟩; (obtain rfl : b = false := (by rcases ho with ⟨h1, h2⟩ | ⟨h1, h2, h3⟩; cases h1; exact h2)); (obtain ⟨db, da, dn, dc, rfl⟩ := hv.r.shape);
        (obtain ⟨w7, hw7⟩ : ∃ w7, w7 = (w5.alloc (.cells #[.bool db, .slice da dn dc] 50)).alloc (.cells #[.bool nb, .slice na nn nc, .bool db, .slice da dn dc] 52) := ⟨_, rfl⟩); (have hx7 : Ext w5 w7 := by rw [hw7]; exact ((Ext.refl w5).al _).al _); (have hE7 := mkHid ((hE4.out.trans hx5).trans hx7)); (have z7 := mkHid ((hx5.trans hx7).blk z4.out)); (have hv7 := mkHid (hv4.out.ext (hx5.trans hx7))); (have hd7 := mkHid (hv.ext hx7)); (have y7 := mkHid ((hx5.trans hx7).blk y4.out)); (have u7 := mkHid (show w7.heap[w5.heap.size]? = some (.cells #[.bool db, .slice da dn dc] 50 (0, 0)) by rw [hw7]; exact (heap_alloc_old _ _ (by simp)).trans (heap_alloc_new _ _))); (have t7 := mkHid (show w7.heap[w5.heap.size + 1]? = some (.cells #[.bool nb, .slice na nn nc, .bool db, .slice da dn dc] 52 (0, 0)) by rw [hw7]; exact heap_at _ _ _ (by simp))); (have hl5 := mkHid hx5.size); (obtain ⟨e0, e1⟩ := row2_cells (hx5.blk y4.out)); (have e2 : w3.heap.size < w5.heap.size := (Array.getElem?_eq_some_iff.1 (hx5.blk y4.out)).1); replace hw7 := mkHid hw7; clear ho hx5 hx7 hE4 z4 hv4 hv y4))
  rw [← hw7.out]
  have hn1 := row2_cells y7.out
  have hd1 := row2_cells u7.out
  have n0 : ∀ W, Ext w7 W → W.cell? ⟨w3.heap.size, 0, none⟩ = some (.bool nb) := fun W e => e.cell hn1.1
  have n1 : ∀ W, Ext w7 W → W.cell? ⟨w3.heap.size, 1, none⟩ = some (.slice na nn nc) := fun W e => e.cell hn1.2
  have d0 : ∀ W, Ext w7 W → W.cell? ⟨w5.heap.size, 0, none⟩ = some (.bool db) := fun W e => e.cell hd1.1
  have d1 : ∀ W, Ext w7 W → W.cell? ⟨w5.heap.size, 1, none⟩ = some (.slice da dn dc) := fun W e => e.cell hd1.2
  clear hn1 hd1 e0 e1 e2 tok
  apply region_ext [.val (.bool false), .val (.bool true), .val (.bool true), .val undef, .val undef, .val undef, .val (.bool true), .val (.bool true), .val undef, .val undef, .val undef, .val undef, .val (.bool true), .val (.bool true), .val undef, .val undef, .val undef, .val undef, .val undef, .val undef, .val (.bool true)] (by kernel_rfl)
  case hst =>
    iterate 21 (refine stable_vals _ ?_)
    trivial
  refine ⟨fun W hW _ => by go_simp; first | exact ⟨Ext.refl _, rfl⟩ | exact Ext.refl _, ?_⟩
  refine ⟨fun W hW _ => by go_simp; first | exact ⟨Ext.refl _, rfl⟩ | exact Ext.refl _, ?_⟩
  refine ⟨fun W hW _ => by go_simp; first | exact ⟨Ext.refl _, rfl⟩ | exact Ext.refl _, ?_⟩
  refine ⟨fun W hW _ => by go_simp <;> (intro hh; have hh' : (none : Option Bool) = some _ := hh; cases hh'), ?_⟩
  refine ⟨fun W hW _ => by go_simp <;> (intro hh; have hh' : (none : Option Bool) = some _ := hh; cases hh'), ?_⟩
  refine ⟨fun W hW _ => by go_simp <;> (intro hh; have hh' : (none : Option Bool) = some _ := hh; cases hh'), ?_⟩
  refine ⟨fun W hW _ => by go_simp; first | exact ⟨Ext.refl _, rfl⟩ | exact Ext.refl _, ?_⟩
  refine ⟨fun W hW _ => by go_simp; first | exact ⟨Ext.refl _, rfl⟩ | exact Ext.refl _, ?_⟩
  refine ⟨fun W hW _ => by go_simp <;> (intro hh; have hh' : (none : Option Bool) = some _ := hh; cases hh'), ?_⟩
  refine ⟨fun W hW _ => by go_simp <;> (intro hh; have hh' : (none : Option Bool) = some _ := hh; cases hh'), ?_⟩
  refine ⟨fun W hW _ => by go_simp <;> (intro hh; have hh' : (none : Option Bool) = some _ := hh; cases hh'), ?_⟩
  refine ⟨fun W hW _ => by go_simp <;> (intro hh; have hh' : (none : Option Bool) = some _ := hh; cases hh'), ?_⟩
  refine ⟨fun W hW _ => by go_simp; first | exact ⟨Ext.refl _, rfl⟩ | exact Ext.refl _, ?_⟩
  refine ⟨fun W hW _ => by go_simp; first | exact ⟨Ext.refl _, rfl⟩ | exact Ext.refl _, ?_⟩
  refine ⟨fun W hW _ => by go_simp <;> (intro hh; have hh' : (none : Option Bool) = some _ := hh; cases hh'), ?_⟩
  refine ⟨fun W hW _ => by go_simp <;> (intro hh; have hh' : (none : Option Bool) = some _ := hh; cases hh'), ?_⟩
  refine ⟨fun W hW _ => by go_simp <;> (intro hh; have hh' : (none : Option Bool) = some _ := hh; cases hh'), ?_⟩
  refine ⟨fun W hW _ => by go_simp <;> (intro hh; have hh' : (none : Option Bool) = some _ := hh; cases hh'), ?_⟩
  refine ⟨fun W hW _ => by go_simp <;> (intro hh; have hh' : (none : Option Bool) = some _ := hh; cases hh'), ?_⟩
  refine ⟨fun W hW _ => by go_simp <;> (intro hh; have hh' : (none : Option Bool) = some _ := hh; cases hh'), ?_⟩
  refine ⟨fun W hW _ => by go_simp; first | exact ⟨Ext.refl _, rfl⟩ | exact Ext.refl _, ?_⟩
  intro W hW _
  have zW := hW.blk z7.out
  have hEW := mkHid ((hE7.out.trans hW).row (Nat.le_refl _) #[.bool false, .slice none 0 0, .bool false, .slice none 0 0])
  clear n0 n1 d0 d1 hW
  go_simp
  go_wp2_with (refine wpList_store_row rfl 52 (.tmp 2) (.tmp 60) rfl w.heap.size #[.bool false, .slice none 0 0, .bool false, .slice none 0 0] rfl rfl 52 _ zW (by kernel_rfl) rfl (by kernel_rfl) ?_)
  refine bodyPost_ret (results_row_tmp rfl _ _ w.heap.size 52 #[.bool false, .slice none 0 0, .bool false, .slice none 0 0] _ _ rfl rfl (setRow_heap _ _ _ _ _ _ zW) Tryz.underlying52 rfl (by kernel_rfl)) rfl ?_
  exact ⟨⟨false, none, 0, 0, false, none, 0, 0⟩, false, rfl, hEW.out, .inl ⟨rfl, rfl⟩⟩
set_option maxHeartbeats 3200000 in
theorem ratRead_low
  (s : ByteArray) (w : World) (x y : ByteArray) (X Y : Int) (hx : x.size ≤ 65536) (hy : y.size ≤ 65536)
    (KC : ∀ W, Ext w W → Calls Tryz.prog 15 #[.string s, .string ⟨#[47]⟩] W fun e w' => e = .returned (.tuple #[.string x, .string y, .bool true]) ∧ Ext W w')
    (hX : readI x.data.toList = some X) (hY : readI y.data.toList = some Y)
  (h0 : Y ≤ 0) :
    Calls Tryz.prog 76 #[.string s] w (RatQ w none) := by
  obtain ⟨w1, hw1⟩ : ∃ w1, w1 = w.alloc (.cells #[.bool false, .slice none 0 0, .bool false, .slice none 0 0] 52) := ⟨_, rfl⟩
  have hE1 := mkHid (show Ext w w1 by rw [hw1]; exact (Ext.refl w).al _)
  have z1 := mkHid (show w1.heap[w.heap.size]? = some (.cells #[.bool false, .slice none 0 0, .bool false, .slice none 0 0] 52 (0, 0)) by rw [hw1]; exact heap_alloc_new _ _)
  have hz2 := mkHid (show w1.heap.size = w.heap.size + 1 by rw [hw1]; simp)
  have KR := mkHid (fun W => read_c x W hx)
  have KS := mkHid (fun W => read_c y W hy)
  replace KC := mkHid KC
  replace hw1 := mkHid hw1
  have nY : nl Y ≤ 1073741824 := Nat.le_trans (readI_nl hY) (by rw [list_size]; omega)
  rw [hX] at KR
  rw [hY] at KS
  obtain ⟨SG, hSG⟩ : ∃ SG, SG = Y.sign := ⟨_, rfl⟩
  have hs : decide (SG ≤ 0) = true := by rw [hSG]; exact decide_eq_true (by rcases Int.lt_or_eq_of_le h0 with h | h; rw [Int.sign_eq_neg_one_of_neg h]; decide; rw [h]; decide)
  replace hSG := mkHid hSG
  clear hX hY hx hy h0
  go_enter Tryz.func76, Tryz.ntmps76
  have tok : Tok 0 := .mk _
  go_wp2_with (first
    | ((have _t : Tok 0 := tok); clear _t; clear tok; (have tok : Tok 1 := .mk _); go_at_call 15; rw [← hw1.out]; refine (KC.out w1 hE1.out).mono ?_; rintro e w2 ⟨rfl, hx2⟩; (have hE2 := mkHid (hE1.out.trans hx2)); (have z2 := mkHid (hx2.blk z1.out)); (have hl1 := mkHid hx2.size); clear hx2)
    | ((have _t : Tok 1 := tok); clear _t; clear tok; (have tok : Tok 2 := .mk _); go_at_call 125; refine (KR.out w2).mono ?_; rintro e w3 ⟨v, b, X', rfl, ho, hv, hx3⟩; (obtain ⟨rfl, rfl⟩ : X = X' ∧ b = true := by (rcases ho with ⟨h1, h2⟩ | ⟨h1, h2, h3⟩; exact ⟨Option.some.inj h1, h2⟩; cases h1)); (obtain ⟨nb, na, nn, nc, rfl⟩ := hv.r.shape); (obtain ⟨w4, hw4⟩ : ∃ w4, w4 = w3.alloc (.cells #[.bool nb, .slice na nn nc] 50) := ⟨_, rfl⟩); (have hx4 : Ext w3 w4 := by rw [hw4]; exact (Ext.refl w3).al _); (have hE4 := mkHid ((hE2.out.trans hx3).trans hx4)); (have z4 := mkHid ((hx3.trans hx4).blk z2.out)); (have hv4 := mkHid (hv.ext hx4)); (have y4 := mkHid (show w4.heap[w3.heap.size]? = some (.cells #[.bool nb, .slice na nn nc] 50 (0, 0)) by rw [hw4]; exact heap_alloc_new _ _)); (have hl4 := mkHid (Nat.le_trans hx3.size hx4.size)); replace hw4 := mkHid hw4; clear ho hx3 hx4 hE2 z2 hE1 z1 hw1 hv)
    | ((have _t : Tok 2 := tok); clear _t; clear tok; (have tok : Tok 3 := .mk _); go_at_call 125; rw [← hw4.out]; refine (KS.out w4).mono ?_; rintro e w5 ⟨v, b, Y', rfl, ho, hv, hx5⟩; (obtain ⟨rfl, rfl⟩ : Y = Y' ∧ b = true := by (rcases ho with ⟨h1, h2⟩ | ⟨h1, h2, h3⟩; exact ⟨Option.some.inj h1, h2⟩; cases h1)); (obtain ⟨db, da, dn, dc, rfl⟩ := hv.r.shape);
        (obtain ⟨w7, hw7⟩ : ∃ w7, w7 = (w5.alloc (.cells #[.bool db, .slice da dn dc] 50)).alloc (.cells #[.bool nb, .slice na nn nc, .bool db, .slice da dn dc] 52) := ⟨_, rfl⟩); (have hx7 : Ext w5 w7 := by rw [hw7]; exact ((Ext.refl w5).al _).al _); (have hE7 := mkHid ((hE4.out.trans hx5).trans hx7)); (have z7 := mkHid ((hx5.trans hx7).blk z4.out)); (have hv7 := mkHid (hv4.out.ext (hx5.trans hx7))); (have hd7 := mkHid (hv.ext hx7)); (have y7 := mkHid ((hx5.trans hx7).blk y4.out)); (have u7 := mkHid (show w7.heap[w5.heap.size]? = some (.cells #[.bool db, .slice da dn dc] 50 (0, 0)) by rw [hw7]; exact (heap_alloc_old _ _ (by simp)).trans (heap_alloc_new _ _))); (have t7 := mkHid (show w7.heap[w5.heap.size + 1]? = some (.cells #[.bool nb, .slice na nn nc, .bool db, .slice da dn dc] 52 (0, 0)) by rw [hw7]; exact heap_at _ _ _ (by simp))); (have hl5 := mkHid hx5.size); (obtain ⟨e0, e1⟩ := row2_cells (hx5.blk y4.out)); (have e2 : w3.heap.size < w5.heap.size := (Array.getElem?_eq_some_iff.1 (hx5.blk y4.out)).1); replace hw7 := mkHid hw7; clear ho hx5 hx7 hE4 z4 hv4 hv y4))
  rw [← hw7.out]
  have hn1 := row2_cells y7.out
  have hd1 := row2_cells u7.out
  have n0 : ∀ W, Ext w7 W → W.cell? ⟨w3.heap.size, 0, none⟩ = some (.bool nb) := fun W e => e.cell hn1.1
  have n1 : ∀ W, Ext w7 W → W.cell? ⟨w3.heap.size, 1, none⟩ = some (.slice na nn nc) := fun W e => e.cell hn1.2
  have d0 : ∀ W, Ext w7 W → W.cell? ⟨w5.heap.size, 0, none⟩ = some (.bool db) := fun W e => e.cell hd1.1
  have d1 : ∀ W, Ext w7 W → W.cell? ⟨w5.heap.size, 1, none⟩ = some (.slice da dn dc) := fun W e => e.cell hd1.2
  clear hn1 hd1 e0 e1 e2 tok
  apply region_ext [.val (.bool true), .val (.bool false), .val (.bool false), .val (.agg #[.bool db, .slice da dn dc]), .val (.int .i64 SG), .val (.bool true), .val (.bool true), .val (.bool true), .val undef, .val undef, .val undef, .val undef, .val (.bool true), .val (.bool true), .val undef, .val undef, .val undef, .val undef, .val undef, .val undef, .val (.bool true)] (by kernel_rfl)
  case hst =>
    iterate 21 (refine stable_vals _ ?_)
    trivial
  refine ⟨fun W hW _ => by go_simp; first | exact ⟨Ext.refl _, rfl⟩ | exact Ext.refl _, ?_⟩
  refine ⟨fun W hW _ => by go_simp; first | exact ⟨Ext.refl _, rfl⟩ | exact Ext.refl _, ?_⟩
  refine ⟨fun W hW _ => by go_simp; first | exact ⟨Ext.refl _, rfl⟩ | exact Ext.refl _, ?_⟩
  refine ⟨fun W hW _ => by have := d0 W hW; have := d1 W hW; go_simp; first | exact ⟨Ext.refl _, rfl⟩ | exact Ext.refl _, ?_⟩
  refine ⟨fun W hW _ => ?g4, ?_⟩
  case g4 =>
    go_simp
    refine (sign_c _ _ W (hd7.out.ext hW).r nY).mono ?_
    rintro e w' ⟨rfl, h1⟩
    rw [← hSG.out]
    exact ⟨rfl, h1⟩
  refine ⟨fun W hW _ => by go_simp; first | exact ⟨Ext.refl _, rfl⟩ | exact Ext.refl _, ?_⟩
  refine ⟨fun W hW _ => by go_simp; first | exact ⟨Ext.refl _, rfl⟩ | exact Ext.refl _, ?_⟩
  refine ⟨fun W hW _ => by go_simp; first | exact ⟨Ext.refl _, rfl⟩ | exact Ext.refl _, ?_⟩
  refine ⟨fun W hW _ => by go_simp <;> (intro hh; have hh' : (none : Option Bool) = some _ := hh; cases hh'), ?_⟩
  refine ⟨fun W hW _ => by go_simp <;> (intro hh; have hh' : (none : Option Bool) = some _ := hh; cases hh'), ?_⟩
  refine ⟨fun W hW _ => by go_simp <;> (intro hh; have hh' : (none : Option Bool) = some _ := hh; cases hh'), ?_⟩
  refine ⟨fun W hW _ => by go_simp <;> (intro hh; have hh' : (none : Option Bool) = some _ := hh; cases hh'), ?_⟩
  refine ⟨fun W hW _ => by go_simp; first | exact ⟨Ext.refl _, rfl⟩ | exact Ext.refl _, ?_⟩
  refine ⟨fun W hW _ => by go_simp; first | exact ⟨Ext.refl _, rfl⟩ | exact Ext.refl _, ?_⟩
  refine ⟨fun W hW _ => by go_simp <;> (intro hh; have hh' : (none : Option Bool) = some _ := hh; cases hh'), ?_⟩
  refine ⟨fun W hW _ => by go_simp <;> (intro hh; have hh' : (none : Option Bool) = some _ := hh; cases hh'), ?_⟩
  refine ⟨fun W hW _ => by go_simp <;> (intro hh; have hh' : (none : Option Bool) = some _ := hh; cases hh'), ?_⟩
  refine ⟨fun W hW _ => by go_simp <;> (intro hh; have hh' : (none : Option Bool) = some _ := hh; cases hh'), ?_⟩
  refine ⟨fun W hW _ => by go_simp <;> (intro hh; have hh' : (none : Option Bool) = some _ := hh; cases hh'), ?_⟩
  refine ⟨fun W hW _ => by go_simp <;> (intro hh; have hh' : (none : Option Bool) = some _ := hh; cases hh'), ?_⟩
  refine ⟨fun W hW _ => by go_simp; first | exact ⟨Ext.refl _, rfl⟩ | exact Ext.refl _, ?_⟩
  intro W hW _
  have zW := hW.blk z7.out
  have hEW := mkHid ((hE7.out.trans hW).row (Nat.le_refl _) #[.bool false, .slice none 0 0, .bool false, .slice none 0 0])
  clear n0 n1 d0 d1 hW
  go_simp
  go_wp2_with (refine wpList_store_row rfl 52 (.tmp 2) (.tmp 60) rfl w.heap.size #[.bool false, .slice none 0 0, .bool false, .slice none 0 0] rfl rfl 52 _ zW (by kernel_rfl) rfl (by kernel_rfl) ?_)
  refine bodyPost_ret (results_row_tmp rfl _ _ w.heap.size 52 #[.bool false, .slice none 0 0, .bool false, .slice none 0 0] _ _ rfl rfl (setRow_heap _ _ _ _ _ _ zW) Tryz.underlying52 rfl (by kernel_rfl)) rfl ?_
  exact ⟨⟨false, none, 0, 0, false, none, 0, 0⟩, false, rfl, hEW.out, .inl ⟨rfl, rfl⟩⟩
set_option maxHeartbeats 3200000 in
theorem ratRead_one
  (s : ByteArray) (w : World) (x y : ByteArray) (X Y : Int) (hx : x.size ≤ 65536) (hy : y.size ≤ 65536)
    (KC : ∀ W, Ext w W → Calls Tryz.prog 15 #[.string s, .string ⟨#[47]⟩] W fun e w' => e = .returned (.tuple #[.string x, .string y, .bool true]) ∧ Ext W w')
    (hX : readI x.data.toList = some X) (hY : readI y.data.toList = some Y)
  (h0 : Y = 1) :
    Calls Tryz.prog 76 #[.string s] w (RatQ w none) := by
  obtain ⟨w1, hw1⟩ : ∃ w1, w1 = w.alloc (.cells #[.bool false, .slice none 0 0, .bool false, .slice none 0 0] 52) := ⟨_, rfl⟩
  have hE1 := mkHid (show Ext w w1 by rw [hw1]; exact (Ext.refl w).al _)
  have z1 := mkHid (show w1.heap[w.heap.size]? = some (.cells #[.bool false, .slice none 0 0, .bool false, .slice none 0 0] 52 (0, 0)) by rw [hw1]; exact heap_alloc_new _ _)
  have hz2 := mkHid (show w1.heap.size = w.heap.size + 1 by rw [hw1]; simp)
  have KR := mkHid (fun W => read_c x W hx)
  have KS := mkHid (fun W => read_c y W hy)
  replace KC := mkHid KC
  replace hw1 := mkHid hw1
  have nY : nl Y ≤ 1073741824 := Nat.le_trans (readI_nl hY) (by rw [list_size]; omega)
  rw [hX] at KR
  rw [hY] at KS
  have ho := mkHid (fun w => of_c 1 w (by omega) (by omega))
  have hs1 := mkHid (show Y.sign = 1 by rw [h0]; decide)
  have hs2 := mkHid (show (Y - 1).sign = 0 by rw [h0]; decide)
  clear hX hY hx hy h0
  go_enter Tryz.func76, Tryz.ntmps76
  have tok : Tok 0 := .mk _
  go_wp2_with (first
    | ((have _t : Tok 0 := tok); clear _t; clear tok; (have tok : Tok 1 := .mk _); go_at_call 15; rw [← hw1.out]; refine (KC.out w1 hE1.out).mono ?_; rintro e w2 ⟨rfl, hx2⟩; (have hE2 := mkHid (hE1.out.trans hx2)); (have z2 := mkHid (hx2.blk z1.out)); (have hl1 := mkHid hx2.size); clear hx2)
    | ((have _t : Tok 1 := tok); clear _t; clear tok; (have tok : Tok 2 := .mk _); go_at_call 125; refine (KR.out w2).mono ?_; rintro e w3 ⟨v, b, X', rfl, ho, hv, hx3⟩; (obtain ⟨rfl, rfl⟩ : X = X' ∧ b = true := by (rcases ho with ⟨h1, h2⟩ | ⟨h1, h2, h3⟩; exact ⟨Option.some.inj h1, h2⟩; cases h1)); (obtain ⟨nb, na, nn, nc, rfl⟩ := hv.r.shape); (obtain ⟨w4, hw4⟩ : ∃ w4, w4 = w3.alloc (.cells #[.bool nb, .slice na nn nc] 50) := ⟨_, rfl⟩); (have hx4 : Ext w3 w4 := by rw [hw4]; exact (Ext.refl w3).al _); (have hE4 := mkHid ((hE2.out.trans hx3).trans hx4)); (have z4 := mkHid ((hx3.trans hx4).blk z2.out)); (have hv4 := mkHid (hv.ext hx4)); (have y4 := mkHid (show w4.heap[w3.heap.size]? = some (.cells #[.bool nb, .slice na nn nc] 50 (0, 0)) by rw [hw4]; exact heap_alloc_new _ _)); (have hl4 := mkHid (Nat.le_trans hx3.size hx4.size)); replace hw4 := mkHid hw4; clear ho hx3 hx4 hE2 z2 hE1 z1 hw1 hv)
    | ((have _t : Tok 2 := tok); clear _t; clear tok; (have tok : Tok 3 := .mk _); go_at_call 125; rw [← hw4.out]; refine (KS.out w4).mono ?_; rintro e w5 ⟨v, b, Y', rfl, ho, hv, hx5⟩; (obtain ⟨rfl, rfl⟩ : Y = Y' ∧ b = true := by (rcases ho with ⟨h1, h2⟩ | ⟨h1, h2, h3⟩; exact ⟨Option.some.inj h1, h2⟩; cases h1)); (obtain ⟨db, da, dn, dc, rfl⟩ := hv.r.shape);
        (obtain ⟨w7, hw7⟩ : ∃ w7, w7 = (w5.alloc (.cells #[.bool db, .slice da dn dc] 50)).alloc (.cells #[.bool nb, .slice na nn nc, .bool db, .slice da dn dc] 52) := ⟨_, rfl⟩); (have hx7 : Ext w5 w7 := by rw [hw7]; exact ((Ext.refl w5).al _).al _); (have hE7 := mkHid ((hE4.out.trans hx5).trans hx7)); (have z7 := mkHid ((hx5.trans hx7).blk z4.out)); (have hv7 := mkHid (hv4.out.ext (hx5.trans hx7))); (have hd7 := mkHid (hv.ext hx7)); (have y7 := mkHid ((hx5.trans hx7).blk y4.out)); (have u7 := mkHid (show w7.heap[w5.heap.size]? = some (.cells #[.bool db, .slice da dn dc] 50 (0, 0)) by rw [hw7]; exact (heap_alloc_old _ _ (by simp)).trans (heap_alloc_new _ _))); (have t7 := mkHid (show w7.heap[w5.heap.size + 1]? = some (.cells #[.bool nb, .slice na nn nc, .bool db, .slice da dn dc] 52 (0, 0)) by rw [hw7]; exact heap_at _ _ _ (by simp))); (have hl5 := mkHid hx5.size); (obtain ⟨e0, e1⟩ := row2_cells (hx5.blk y4.out)); (have e2 : w3.heap.size < w5.heap.size := (Array.getElem?_eq_some_iff.1 (hx5.blk y4.out)).1); replace hw7 := mkHid hw7; clear ho hx5 hx7 hE4 z4 hv4 hv y4))
  rw [← hw7.out]
  have hn1 := row2_cells y7.out
  have hd1 := row2_cells u7.out
  have n0 : ∀ W, Ext w7 W → W.cell? ⟨w3.heap.size, 0, none⟩ = some (.bool nb) := fun W e => e.cell hn1.1
  have n1 : ∀ W, Ext w7 W → W.cell? ⟨w3.heap.size, 1, none⟩ = some (.slice na nn nc) := fun W e => e.cell hn1.2
  have d0 : ∀ W, Ext w7 W → W.cell? ⟨w5.heap.size, 0, none⟩ = some (.bool db) := fun W e => e.cell hd1.1
  have d1 : ∀ W, Ext w7 W → W.cell? ⟨w5.heap.size, 1, none⟩ = some (.slice da dn dc) := fun W e => e.cell hd1.2
  clear hn1 hd1 e0 e1 e2 tok
  apply region_ext [.val (.bool true), .val (.bool false), .val (.bool false), .val (.agg #[.bool db, .slice da dn dc]), .val (.int .i64 1), .val (.bool false), .val (.bool false), .val (.bool false), .val (.agg #[.bool db, .slice da dn dc]), .pred (fun W v => IntO W 0 v 1), .val (.int .i64 0), .val (.bool true), .val (.bool true), .val (.bool true), .val undef, .val undef, .val undef, .val undef, .val undef, .val undef, .val (.bool true)] (by kernel_rfl)
  case hst =>
    iterate 9 (refine stable_vals _ ?_)
    refine st_intO _ _ ?_
    iterate 11 (refine stable_vals _ ?_)
    trivial
  refine ⟨fun W hW _ => by go_simp; first | exact ⟨Ext.refl _, rfl⟩ | exact Ext.refl _, ?_⟩
  refine ⟨fun W hW _ => by go_simp; first | exact ⟨Ext.refl _, rfl⟩ | exact Ext.refl _, ?_⟩
  refine ⟨fun W hW _ => by go_simp; first | exact ⟨Ext.refl _, rfl⟩ | exact Ext.refl _, ?_⟩
  refine ⟨fun W hW _ => by have := d0 W hW; have := d1 W hW; go_simp; first | exact ⟨Ext.refl _, rfl⟩ | exact Ext.refl _, ?_⟩
  refine ⟨fun W hW _ => ?g4, ?_⟩
  case g4 =>
    go_simp
    refine (sign_c _ _ W (hd7.out.ext hW).r nY).mono ?_
    rintro e w' ⟨rfl, h1⟩
    rw [hs1.out]
    exact ⟨rfl, h1⟩
  refine ⟨fun W hW _ => by go_simp; first | exact ⟨Ext.refl _, rfl⟩ | exact Ext.refl _, ?_⟩
  refine ⟨fun W hW _ => by go_simp; first | exact ⟨Ext.refl _, rfl⟩ | exact Ext.refl _, ?_⟩
  refine ⟨fun W hW _ => by go_simp; first | exact ⟨Ext.refl _, rfl⟩ | exact Ext.refl _, ?_⟩
  refine ⟨fun W hW _ => by have := d0 W hW; have := d1 W hW; go_simp; first | exact ⟨Ext.refl _, rfl⟩ | exact Ext.refl _, ?_⟩
  refine ⟨fun W hW hF => ?g9, fun v9 => ?_⟩
  case g9 =>
    clear hF
    go_simp
    refine (ho.out W).mono ?_
    rintro e w' ⟨v, rfl, h1, h2⟩
    exact ⟨v, rfl, h1, h2.mono (Nat.zero_le _)⟩
  refine ⟨fun W hW hF => ?g10, ?_⟩
  case g10 =>
    have q9 : IntO W 0 v9 1 := hF.1 (by kernel_rfl)
    replace q9 := mkHid q9
    clear hF
    go_simp
    refine (cmp_c _ _ Y 1 W nY nl_one (hd7.out.ext hW).r q9.out.r).mono ?_
    rintro e w' ⟨rfl, h1⟩
    rw [hs2.out]
    exact ⟨rfl, h1⟩
  refine ⟨fun W hW _ => by go_simp; first | exact ⟨Ext.refl _, rfl⟩ | exact Ext.refl _, ?_⟩
  refine ⟨fun W hW _ => by go_simp; first | exact ⟨Ext.refl _, rfl⟩ | exact Ext.refl _, ?_⟩
  refine ⟨fun W hW _ => by go_simp; first | exact ⟨Ext.refl _, rfl⟩ | exact Ext.refl _, ?_⟩
  refine ⟨fun W hW _ => by go_simp <;> (intro hh; have hh' : (none : Option Bool) = some _ := hh; cases hh'), ?_⟩
  refine ⟨fun W hW _ => by go_simp <;> (intro hh; have hh' : (none : Option Bool) = some _ := hh; cases hh'), ?_⟩
  refine ⟨fun W hW _ => by go_simp <;> (intro hh; have hh' : (none : Option Bool) = some _ := hh; cases hh'), ?_⟩
  refine ⟨fun W hW _ => by go_simp <;> (intro hh; have hh' : (none : Option Bool) = some _ := hh; cases hh'), ?_⟩
  refine ⟨fun W hW _ => by go_simp <;> (intro hh; have hh' : (none : Option Bool) = some _ := hh; cases hh'), ?_⟩
  refine ⟨fun W hW _ => by go_simp <;> (intro hh; have hh' : (none : Option Bool) = some _ := hh; cases hh'), ?_⟩
  refine ⟨fun W hW _ => by go_simp; first | exact ⟨Ext.refl _, rfl⟩ | exact Ext.refl _, ?_⟩
  intro W hW _
  have zW := hW.blk z7.out
  have hEW := mkHid ((hE7.out.trans hW).row (Nat.le_refl _) #[.bool false, .slice none 0 0, .bool false, .slice none 0 0])
  clear n0 n1 d0 d1 hW
  go_simp
  go_wp2_with (refine wpList_store_row rfl 52 (.tmp 2) (.tmp 60) rfl w.heap.size #[.bool false, .slice none 0 0, .bool false, .slice none 0 0] rfl rfl 52 _ zW (by kernel_rfl) rfl (by kernel_rfl) ?_)
  refine bodyPost_ret (results_row_tmp rfl _ _ w.heap.size 52 #[.bool false, .slice none 0 0, .bool false, .slice none 0 0] _ _ rfl rfl (setRow_heap _ _ _ _ _ _ zW) Tryz.underlying52 rfl (by kernel_rfl)) rfl ?_
  exact ⟨⟨false, none, 0, 0, false, none, 0, 0⟩, false, rfl, hEW.out, .inl ⟨rfl, rfl⟩⟩
set_option maxHeartbeats 6400000 in
theorem ratRead_gcd
  (s : ByteArray) (w : World) (x y : ByteArray) (X Y : Int) (hx : x.size ≤ 65536) (hy : y.size ≤ 65536)
    (KC : ∀ W, Ext w W → Calls Tryz.prog 15 #[.string s, .string ⟨#[47]⟩] W fun e w' => e = .returned (.tuple #[.string x, .string y, .bool true]) ∧ Ext W w')
    (hX : readI x.data.toList = some X) (hY : readI y.data.toList = some Y)
  (h0 : 1 < Y) :
    Calls Tryz.prog 76 #[.string s] w (RatQ w (if Int.gcd X Y = 1 then some (Rat.divInt X Y) else none)) := by
  obtain ⟨w1, hw1⟩ : ∃ w1, w1 = w.alloc (.cells #[.bool false, .slice none 0 0, .bool false, .slice none 0 0] 52) := ⟨_, rfl⟩
  have hE1 := mkHid (show Ext w w1 by rw [hw1]; exact (Ext.refl w).al _)
  have z1 := mkHid (show w1.heap[w.heap.size]? = some (.cells #[.bool false, .slice none 0 0, .bool false, .slice none 0 0] 52 (0, 0)) by rw [hw1]; exact heap_alloc_new _ _)
  have hz2 := mkHid (show w1.heap.size = w.heap.size + 1 by rw [hw1]; simp)
  have KR := mkHid (fun W => read_c x W hx)
  have KS := mkHid (fun W => read_c y W hy)
  replace KC := mkHid KC
  replace hw1 := mkHid hw1
  have nX : nl X ≤ 1073741824 := Nat.le_trans (readI_nl hX) (by rw [list_size]; omega)
  have nY : nl Y ≤ 1073741824 := Nat.le_trans (readI_nl hY) (by rw [list_size]; omega)
  rw [hX] at KR
  rw [hY] at KS
  obtain ⟨G, hG⟩ : ∃ G, G = Int.gcd X Y := ⟨_, rfl⟩
  obtain ⟨SG, hSG⟩ : ∃ SG, SG = ((G : Int) - 1).sign := ⟨_, rfl⟩
  have ho := mkHid (fun w => of_c 1 w (by omega) (by omega))
  have hs1 := mkHid (show Y.sign = 1 from Int.sign_eq_one_of_pos (by omega))
  have hs2 := mkHid (show (Y - 1).sign = 1 from Int.sign_eq_one_of_pos (by omega))
  have nG : nl (G : Int) ≤ 1073741824 := by
    refine Nat.le_trans ?_ nY
    unfold nl
    rw [Int.natAbs_natCast]
    refine lim_mono ?_
    rw [hG]
    exact Nat.le_of_dvd (by omega) (Int.gcd_dvd_natAbs_right X Y)
  have hz : (SG != 0) = decide (G ≠ 1) := by
    rw [Bool.eq_iff_iff, bne_iff_ne, decide_eq_true_eq, hSG]
    refine not_congr ?_
    rw [Int.sign_eq_zero_iff_zero]
    omega
  have hrat := mkHid (fun (h : G = 1) => rat_parts (n := X) (d := Y) (by omega) (by rw [← hG]; exact h))
  rw [← hG]
  obtain ⟨O, hO⟩ : ∃ O : Option Rat, O = if G = 1 then some (Rat.divInt X Y) else none := ⟨_, rfl⟩
  rw [← hO]
  replace hO := mkHid hO
  replace hG := mkHid hG
  replace hSG := mkHid hSG
  replace hz := mkHid hz
  clear hX hY hx hy h0
  go_enter Tryz.func76, Tryz.ntmps76
  have tok : Tok 0 := .mk _
  go_wp2_with (first
    | ((have _t : Tok 0 := tok); clear _t; clear tok; (have tok : Tok 1 := .mk _); go_at_call 15; rw [← hw1.out]; refine (KC.out w1 hE1.out).mono ?_; rintro e w2 ⟨rfl, hx2⟩; (have hE2 := mkHid (hE1.out.trans hx2)); (have z2 := mkHid (hx2.blk z1.out)); (have hl1 := mkHid hx2.size); clear hx2)
    | ((have _t : Tok 1 := tok); clear _t; clear tok; (have tok : Tok 2 := .mk _); go_at_call 125; refine (KR.out w2).mono ?_; rintro e w3 ⟨v, b, X', rfl, ho, hv, hx3⟩; (obtain ⟨rfl, rfl⟩ : X = X' ∧ b = true := by (rcases ho with ⟨h1, h2⟩ | ⟨h1, h2, h3⟩; exact ⟨Option.some.inj h1, h2⟩; cases h1)); (obtain ⟨nb, na, nn, nc, rfl⟩ := hv.r.shape); (obtain ⟨w4, hw4⟩ : ∃ w4, w4 = w3.alloc (.cells #[.bool nb, .slice na nn nc] 50) := ⟨_, rfl⟩); (have hx4 : Ext w3 w4 := by rw [hw4]; exact (Ext.refl w3).al _); (have hE4 := mkHid ((hE2.out.trans hx3).trans hx4)); (have z4 := mkHid ((hx3.trans hx4).blk z2.out)); (have hv4 := mkHid (hv.ext hx4)); (have y4 := mkHid (show w4.heap[w3.heap.size]? = some (.cells #[.bool nb, .slice na nn nc] 50 (0, 0)) by rw [hw4]; exact heap_alloc_new _ _)); (have hl4 := mkHid (Nat.le_trans hx3.size hx4.size)); replace hw4 := mkHid hw4; clear ho hx3 hx4 hE2 z2 hE1 z1 hw1 hv)
    | ((have _t : Tok 2 := tok); clear _t; clear tok; (have tok : Tok 3 := .mk _); go_at_call 125; rw [← hw4.out]; refine (KS.out w4).mono ?_; rintro e w5 ⟨v, b, Y', rfl, ho, hv, hx5⟩; (obtain ⟨rfl, rfl⟩ : Y = Y' ∧ b = true := by (rcases ho with ⟨h1, h2⟩ | ⟨h1, h2, h3⟩; exact ⟨Option.some.inj h1, h2⟩; cases h1)); (obtain ⟨db, da, dn, dc, rfl⟩ := hv.r.shape);
        (obtain ⟨w7, hw7⟩ : ∃ w7, w7 = (w5.alloc (.cells #[.bool db, .slice da dn dc] 50)).alloc (.cells #[.bool nb, .slice na nn nc, .bool db, .slice da dn dc] 52) := ⟨_, rfl⟩); (have hx7 : Ext w5 w7 := by rw [hw7]; exact ((Ext.refl w5).al _).al _); (have hE7 := mkHid ((hE4.out.trans hx5).trans hx7)); (have z7 := mkHid ((hx5.trans hx7).blk z4.out)); (have hv7 := mkHid (hv4.out.ext (hx5.trans hx7))); (have hd7 := mkHid (hv.ext hx7)); (have y7 := mkHid ((hx5.trans hx7).blk y4.out)); (have u7 := mkHid (show w7.heap[w5.heap.size]? = some (.cells #[.bool db, .slice da dn dc] 50 (0, 0)) by rw [hw7]; exact (heap_alloc_old _ _ (by simp)).trans (heap_alloc_new _ _))); (have t7 := mkHid (show w7.heap[w5.heap.size + 1]? = some (.cells #[.bool nb, .slice na nn nc, .bool db, .slice da dn dc] 52 (0, 0)) by rw [hw7]; exact heap_at _ _ _ (by simp))); (have hl5 := mkHid hx5.size); (obtain ⟨e0, e1⟩ := row2_cells (hx5.blk y4.out)); (have e2 : w3.heap.size < w5.heap.size := (Array.getElem?_eq_some_iff.1 (hx5.blk y4.out)).1); replace hw7 := mkHid hw7; clear ho hx5 hx7 hE4 z4 hv4 hv y4))
  rw [← hw7.out]
  have hn1 := row2_cells y7.out
  have hd1 := row2_cells u7.out
  have n0 : ∀ W, Ext w7 W → W.cell? ⟨w3.heap.size, 0, none⟩ = some (.bool nb) := fun W e => e.cell hn1.1
  have n1 : ∀ W, Ext w7 W → W.cell? ⟨w3.heap.size, 1, none⟩ = some (.slice na nn nc) := fun W e => e.cell hn1.2
  have d0 : ∀ W, Ext w7 W → W.cell? ⟨w5.heap.size, 0, none⟩ = some (.bool db) := fun W e => e.cell hd1.1
  have d1 : ∀ W, Ext w7 W → W.cell? ⟨w5.heap.size, 1, none⟩ = some (.slice da dn dc) := fun W e => e.cell hd1.2
  clear hn1 hd1 e0 e1 e2 tok
  apply region_ext [.val (.bool true), .val (.bool false), .val (.bool false), .val (.agg #[.bool db, .slice da dn dc]), .val (.int .i64 1), .val (.bool false), .val (.bool false), .val (.bool false), .val (.agg #[.bool db, .slice da dn dc]), .pred (fun W v => IntO W 0 v 1), .val (.int .i64 1), .val (.bool false), .val (.bool false), .val (.bool false), .val (.agg #[.bool nb, .slice na nn nc]), .val (.agg #[.bool db, .slice da dn dc]), .pred (fun W v => IntO W 0 v (G : Int)), .pred (fun W v => IntO W 0 v 1), .val (.int .i64 SG), .val (.bool (SG != 0)), .val (.bool (SG != 0))] (by kernel_rfl)
  case hst =>
    iterate 9 (refine stable_vals _ ?_)
    refine st_intO _ _ ?_
    iterate 6 (refine stable_vals _ ?_)
    refine st_intO _ _ ?_
    refine st_intO _ _ ?_
    iterate 3 (refine stable_vals _ ?_)
    trivial
  refine ⟨fun W hW _ => by go_simp; first | exact ⟨Ext.refl _, rfl⟩ | exact Ext.refl _, ?_⟩
  refine ⟨fun W hW _ => by go_simp; first | exact ⟨Ext.refl _, rfl⟩ | exact Ext.refl _, ?_⟩
  refine ⟨fun W hW _ => by go_simp; first | exact ⟨Ext.refl _, rfl⟩ | exact Ext.refl _, ?_⟩
  refine ⟨fun W hW _ => by have := d0 W hW; have := d1 W hW; go_simp; first | exact ⟨Ext.refl _, rfl⟩ | exact Ext.refl _, ?_⟩
  refine ⟨fun W hW _ => ?g4, ?_⟩
  case g4 =>
    go_simp
    refine (sign_c _ _ W (hd7.out.ext hW).r nY).mono ?_
    rintro e w' ⟨rfl, h1⟩
    rw [hs1.out]
    exact ⟨rfl, h1⟩
  refine ⟨fun W hW _ => by go_simp; first | exact ⟨Ext.refl _, rfl⟩ | exact Ext.refl _, ?_⟩
  refine ⟨fun W hW _ => by go_simp; first | exact ⟨Ext.refl _, rfl⟩ | exact Ext.refl _, ?_⟩
  refine ⟨fun W hW _ => by go_simp; first | exact ⟨Ext.refl _, rfl⟩ | exact Ext.refl _, ?_⟩
  refine ⟨fun W hW _ => by have := d0 W hW; have := d1 W hW; go_simp; first | exact ⟨Ext.refl _, rfl⟩ | exact Ext.refl _, ?_⟩
  refine ⟨fun W hW hF => ?g9, fun v9 => ?_⟩
  case g9 =>
    clear hF
    go_simp
    refine (ho.out W).mono ?_
    rintro e w' ⟨v, rfl, h1, h2⟩
    exact ⟨v, rfl, h1, h2.mono (Nat.zero_le _)⟩
  refine ⟨fun W hW hF => ?g10, ?_⟩
  case g10 =>
    have q9 : IntO W 0 v9 1 := hF.1 (by kernel_rfl)
    replace q9 := mkHid q9
    clear hF
    go_simp
    refine (cmp_c _ _ Y 1 W nY nl_one (hd7.out.ext hW).r q9.out.r).mono ?_
    rintro e w' ⟨rfl, h1⟩
    rw [hs2.out]
    exact ⟨rfl, h1⟩
  refine ⟨fun W hW _ => by go_simp; first | exact ⟨Ext.refl _, rfl⟩ | exact Ext.refl _, ?_⟩
  refine ⟨fun W hW _ => by go_simp; first | exact ⟨Ext.refl _, rfl⟩ | exact Ext.refl _, ?_⟩
  refine ⟨fun W hW _ => by go_simp; first | exact ⟨Ext.refl _, rfl⟩ | exact Ext.refl _, ?_⟩
  refine ⟨fun W hW _ => by have := n0 W hW; have := n1 W hW; go_simp; first | exact ⟨Ext.refl _, rfl⟩ | exact Ext.refl _, ?_⟩
  refine ⟨fun W hW _ => by have := d0 W hW; have := d1 W hW; go_simp; first | exact ⟨Ext.refl _, rfl⟩ | exact Ext.refl _, ?_⟩
  refine ⟨fun W hW hF => ?g16, fun v16 => ?_⟩
  case g16 =>
    clear hF
    go_simp
    refine (common_c _ _ X Y W nX nY (hv7.out.ext hW).r (hd7.out.ext hW).r).mono ?_
    rintro e w' ⟨v, rfl, h1, h2⟩
    rw [← hG.out] at h2
    exact ⟨v, rfl, h1, h2.mono (Nat.zero_le _)⟩
  refine ⟨fun W hW hF => ?g17, fun v17 => ?_⟩
  case g17 =>
    clear hF
    go_simp
    refine (ho.out W).mono ?_
    rintro e w' ⟨v, rfl, h1, h2⟩
    exact ⟨v, rfl, h1, h2.mono (Nat.zero_le _)⟩
  refine ⟨fun W hW hF => ?g18, ?_⟩
  case g18 =>
    have q17 : IntO W 0 v17 1 := hF.1 (by kernel_rfl)
    have q16 : IntO W 0 v16 (G : Int) := hF.2.1 (by kernel_rfl)
    replace q17 := mkHid q17
    replace q16 := mkHid q16
    clear hF
    go_simp
    refine (cmp_c _ _ (G : Int) 1 W nG nl_one q16.out.r q17.out.r).mono ?_
    rintro e w' ⟨rfl, h1⟩
    rw [← hSG.out]
    exact ⟨rfl, h1⟩
  refine ⟨fun W hW _ => by go_simp; first | exact ⟨Ext.refl _, rfl⟩ | exact Ext.refl _, ?_⟩
  refine ⟨fun W hW _ => by go_simp; first | exact ⟨Ext.refl _, rfl⟩ | exact Ext.refl _, ?_⟩
  intro W hW _
  rw [hz.out]
  by_cases hg : G = 1
  · have hO1 := hO.out
    rw [if_pos hg] at hO1
    replace hO1 := mkHid hO1
    rw [decide_eq_false (by simpa using hg)]
    obtain ⟨r1, r2⟩ := hrat.out hg
    have HN : IntO W w2.heap.size (.agg #[.bool nb, .slice na nn nc]) X := hv7.out.ext hW
    have HD : IntO W w2.heap.size (.agg #[.bool db, .slice da dn dc]) Y := (hd7.out.ext hW).mono hl4.out
    have R : FracO W w2.heap.size (.agg #[.bool nb, .slice na nn nc, .bool db, .slice da dn dc]) (Rat.divInt X Y) := ⟨_, _, _, _, _, _, _, _, rfl, by rw [r1]; exact HN, by rw [r2]; exact HD⟩
    have FR := mkHid ((R.row (g := w.heap.size) (by have := hl1.out; have := hz2.out; omega) #[.bool nb, .slice na nn nc, .bool db, .slice da dn dc]).mono (show w.heap.size ≤ w2.heap.size by have := hl1.out; have := hz2.out; omega))
    have hEW := mkHid ((hE7.out.trans hW).row (Nat.le_refl _) #[.bool nb, .slice na nn nc, .bool db, .slice da dn dc])
    have zW := mkHid (hW.blk z7.out)
    have tW := mkHid (hW.blk t7.out)
    clear n0 n1 d0 d1 hW hg HN HD R r1 r2
    go_simp
    have tok : Tok 30 := .mk _
    go_wp2_with (first
      | ((have _t : Tok 30 := tok); clear _t; clear tok; (have tok : Tok 31 := .mk _); refine wpList_load_row (by rfl) 52 (.tmp 10) rfl (w5.heap.size + 1) rfl 52 #[.bool nb, .slice na nn nc, .bool db, .slice da dn dc] (0, 0) _ tW.out Tryz.underlying52 rfl (by kernel_rfl) ?_)
      | ((have _t : Tok 31 := tok); clear _t; clear tok; (have tok : Tok 32 := .mk _); refine wpList_store_row rfl 52 (.tmp 2) (.tmp 61) rfl w.heap.size #[.bool nb, .slice na nn nc, .bool db, .slice da dn dc] rfl rfl 52 _ zW.out (by kernel_rfl) rfl (by kernel_rfl) ?_))
    refine bodyPost_ret (results_row_tmp rfl _ _ w.heap.size 52 #[.bool nb, .slice na nn nc, .bool db, .slice da dn dc] _ _ rfl rfl (setRow_heap _ _ _ _ _ _ zW.out) Tryz.underlying52 rfl (by kernel_rfl)) rfl ?_
    exact ⟨⟨nb, na, nn, nc, db, da, dn, dc⟩, true, rfl, hEW.out, .inr ⟨_, hO1.out, rfl, FR.out⟩⟩
  · have hO1 := hO.out
    rw [if_neg hg] at hO1
    subst hO1
    clear hO
    rw [decide_eq_true hg]
    revert W
    intro W hW _
    have zW := hW.blk z7.out
    have hEW := mkHid ((hE7.out.trans hW).row (Nat.le_refl _) #[.bool false, .slice none 0 0, .bool false, .slice none 0 0])
    clear n0 n1 d0 d1 hW
    go_simp
    go_wp2_with (refine wpList_store_row rfl 52 (.tmp 2) (.tmp 60) rfl w.heap.size #[.bool false, .slice none 0 0, .bool false, .slice none 0 0] rfl rfl 52 _ zW (by kernel_rfl) rfl (by kernel_rfl) ?_)
    refine bodyPost_ret (results_row_tmp rfl _ _ w.heap.size 52 #[.bool false, .slice none 0 0, .bool false, .slice none 0 0] _ _ rfl rfl (setRow_heap _ _ _ _ _ _ zW) Tryz.underlying52 rfl (by kernel_rfl)) rfl ?_
    exact ⟨⟨false, none, 0, 0, false, none, 0, 0⟩, false, rfl, hEW.out, .inl ⟨rfl, rfl⟩⟩
/-- ratio.Read. -/
theorem ratRead_c (s : ByteArray) (w : World) (hs : s.size ≤ 65536) (hm : Max0 w) : Calls Tryz.prog 76 #[.string s] w (RatQ w (readF s.data.toList)) := by
  cases hc : cutL 47 s.data.toList with
  | none =>
    rw [readF_miss hc]
    exact ratRead_whole s w s ⟨#[]⟩ false hs (fun W e => cut_miss 47 s W (by omega) (hm.ext e) hc) (.inl rfl)
  | some p =>
    obtain ⟨x, y⟩ := p
    have hl := congrArg List.length (cutL_some hc).1
    rw [list_size, List.length_append, List.length_cons] at hl
    have KC : ∀ W, Ext w W → Calls Tryz.prog 15 #[.string s, .string ⟨#[47]⟩] W fun e w' => e = .returned (.tuple #[.string ⟨x.toArray⟩, .string ⟨y.toArray⟩, .bool true]) ∧ Ext W w' := fun W e => cut_hit 47 s W (by omega) (hm.ext e) hc
    rw [readF_hit hc]
    have hx : (⟨x.toArray⟩ : ByteArray).size ≤ 65536 := by rw [str_len]; omega
    have hy : (⟨y.toArray⟩ : ByteArray).size ≤ 65536 := by rw [str_len]; omega
    cases hX : readI x with
    | none =>
      have := ratRead_whole s w ⟨x.toArray⟩ ⟨y.toArray⟩ true hx KC (.inr hX)
      rw [show (⟨x.toArray⟩ : ByteArray).data.toList = x from rfl, hX] at this
      exact this
    | some X =>
      cases hY : readI y with
      | none => exact ratRead_none s w _ _ X hx hy KC hX hY
      | some Y =>
        rcases Int.lt_trichotomy 1 Y with h | h | h
        · have := ratRead_gcd s w _ _ X Y hx hy KC hX hY h
          simp only [h, true_and]
          exact this
        · rw [show (match some X, some Y with | some n, some d => if 1 < d ∧ Int.gcd n d = 1 then some (Rat.divInt n d) else none | _, _ => none) = (none : Option Rat) from if_neg (by omega)]
          exact ratRead_one s w _ _ X Y hx hy KC hX hY h.symm
        · rw [show (match some X, some Y with | some n, some d => if 1 < d ∧ Int.gcd n d = 1 then some (Rat.divInt n d) else none | _, _ => none) = (none : Option Rat) from if_neg (by omega)]
          exact ratRead_low s w _ _ X Y hx hy KC hX hY (by omega)
end Go.Proofs.YtjelnmokcpoofaaGreatDoor
namespace Go.Proofs.YtjelnmokcpoofaaGreatDoor
set_option maxRecDepth 100000
open Go Go.RowKit Go.Proofs
theorem less_bef : ∀ (a b : List UInt8), Op.bytesLess a b = bytesBefore a b
  | [], [] => rfl
  | [], _ :: _ => rfl
  | _ :: _, [] => rfl
  | a :: x, b :: y => by
    show (decide (a < b) || (a == b && Op.bytesLess x y)) = (decide (a < b) || (a == b && bytesBefore x y))
    rw [less_bef x y]
end Go.Proofs.YtjelnmokcpoofaaGreatDoor
namespace Go.Proofs.YtjelnmokcpoofaaGreatDoor
set_option maxRecDepth 100000
open Go Go.RowKit Go.Proofs Go.Lib
def nmL (d : PD) : List UInt8 := d.nm.data.toList
def lastN (acc : List PD) : List UInt8 := (acc.getLast?.map nmL).getD []
/-- A line without its end. -/
def lineT (d : PD) : List UInt8 := headB d ++ tailB (fracsB d)
theorem lineB_T (d : PD) : lineB d = lineT d ++ [10] := rfl
theorem nameC_free {c : UInt8} (h : nameC c = false) {l : List UInt8} (hl : nameB l = true) : c ∉ l := by
  intro hc
  unfold nameB at hl
  simp only [Bool.and_eq_true, List.all_eq_true] at hl
  rw [hl.2.2.2.2 c hc] at h
  cases h
theorem ratText_free {x : Rat} {c : UInt8} (h1 : c ≠ 45) (h2 : digitVal c = none) (h3 : c ≠ 47) : c ∉ ratText x := by
  unfold ratText
  split
  · exact itoa_free h1 h2
  · intro hm
    rcases List.mem_append.1 hm with h | h
    · exact itoa_free h1 h2 h
    · rcases List.mem_cons.1 h with h | h
      · exact h3 h
      · exact itoa_free h1 h2 h
theorem word_free {c : UInt8} (h : c = 32 ∨ c = 10) (kd : Int) : c ∉ wordB kd := by
  unfold wordB
  rcases h with rfl | rfl <;> (split <;> (try split) <;> (try split) <;> (try split) <;> (try split) <;> decide)
theorem words_tail : ∀ (fr : List Rat) (x : List UInt8), (32 : UInt8) ∉ x → wordsL 32 (x ++ tailB fr) = x :: fr.map ratText
  | [], x, hx => by
    rw [show tailB [] = [] from rfl, List.append_nil, wordsL_none hx]
    rfl
  | f :: fr, x, hx => by
    rw [show tailB (f :: fr) = 32 :: (ratText f ++ tailB fr) by simp [tailB], wordsL_cons hx, words_tail fr _ (ratText_free (by decide) (by decide) (by decide))]
    rfl
theorem words_line (d : PD) (h : nameB (nmL d) = true) : wordsL 32 (lineT d) = [nmL d, itoa d.co, wordB d.kd] ++ (fracsB d).map ratText := by
  have h1 : (32 : UInt8) ∉ nmL d := nameC_free (by decide) h
  have h2 : (32 : UInt8) ∉ itoa d.co := itoa_free (by decide) (by decide)
  have e : lineT d = nmL d ++ 32 :: (itoa d.co ++ 32 :: (wordB d.kd ++ tailB (fracsB d))) := by
    unfold lineT headB nmL
    simp
  rw [e, wordsL_cons h1, wordsL_cons h2, words_tail _ _ (word_free (.inl rfl) _)]
  rfl
theorem atoi_itoa {n : Int} (h : 0 ≤ n) : atoi (itoa n) = some n := by
  unfold itoa
  rw [if_neg (by omega)]
  have hd := decFrom_dec n.toNat
  have hn := dec_ne n.toNat
  have h45 := dec_head45 n.toNat
  cases hc : decDigits n.toNat with
  | nil => exact absurd hc hn
  | cons b r =>
    rw [hc] at hd h45
    have hb : (b == 45) = false := by
      cases hb : b == 45 with
      | false => rfl
      | true => exact absurd (by rw [List.head?_cons, eq_of_beq hb]) h45
    have hb2 : (b == 43) = false := by
      cases hb : b == 43 with
      | false => rfl
      | true =>
        obtain ⟨d, hd'⟩ := digit_of_decFrom _ _ _ hd 0 b rfl
        rw [eq_of_beq hb] at hd'
        cases hd'
    unfold atoi decNat
    simp only [hb, hb2, hd, List.isEmpty_cons, Bool.false_eq_true, if_false, Option.map_some, Option.some.injEq]
    omega
theorem itoa_short {n : Int} (h0 : 0 ≤ n) (h : n ≤ 1073741824) : (itoa n).length ≤ 10 := by
  unfold itoa
  rw [if_neg (by omega), decDigits_length]
  rcases Nat.lt_or_ge 10 (nDigits n.toNat) with hk | hk
  · rcases Nat.eq_zero_or_pos n.toNat with e | e
    · rw [e, nDigits_small (by omega)] at hk
      omega
    · have h1 := pow_le_nDigits n.toNat e
      have h2 : 10 ^ 10 ≤ 10 ^ (nDigits n.toNat - 1) := Nat.pow_le_pow_right (by omega) (by omega)
      omega
  · exact hk
theorem okPD_kd {d : PD} (h : okPD d) : 1 ≤ d.kd ∧ d.kd ≤ 5 := by
  have := h.2.2.2
  unfold mayP mayO mayS at this
  simp only [Bool.and_eq_true, decide_eq_true_eq] at this
  obtain ⟨-, -, h3⟩ := this
  split at h3
  · omega
  · split at h3
    · omega
    · split at h3
      · omega
      · split at h3
        · omega
        · split at h3
          · omega
          · cases h3
theorem okPD_co {d : PD} (h : okPD d) : 0 ≤ d.co ∧ d.co ≤ 1073741824 := by
  have := h.2.2.2
  unfold mayP at this
  simp only [Bool.and_eq_true, decide_eq_true_eq] at this
  exact ⟨this.1, this.2.1⟩
theorem sign_zero {x : Rat} (h : (x.num.sign == 0) = true) : x = 0 := by
  have h1 := Int.sign_eq_zero_iff_zero.1 (eq_of_beq h)
  exact Rat.num_eq_zero.1 h1
/-- Fractions that the text does not tell are nought. -/
theorem okPD_nought {d : PD} (h : okPD d) : (wordN d.kd < 1 → d.p = 0) ∧ (wordN d.kd < 2 → d.q = 0) := by
  have hk := okPD_kd h
  have := h.2.2.2
  unfold mayP mayO at this
  simp only [Bool.and_eq_true, decide_eq_true_eq] at this
  obtain ⟨-, -, h3⟩ := this
  have hc : d.kd = 1 ∨ d.kd = 2 ∨ d.kd = 3 ∨ d.kd = 4 ∨ d.kd = 5 := by omega
  rcases hc with e | e | e | e | e <;> rw [e] at h3 ⊢
  · simp only [mayS, if_true, Bool.and_eq_true] at h3
    exact ⟨fun h => absurd h (by decide), fun _ => sign_zero h3.2⟩
  · have h3 : (d.q.num.sign == 0) = true := h3
    exact ⟨fun h => absurd h (by decide), fun _ => sign_zero h3⟩
  · exact ⟨fun h => absurd h (by decide), fun h => absurd h (by decide)⟩
  · exact ⟨fun h => absurd h (by decide), fun h => absurd h (by decide)⟩
  · have h3 : ((d.p.num.sign == 0) && (d.q.num.sign == 0)) = true := h3
    rw [Bool.and_eq_true] at h3
    exact ⟨fun _ => sign_zero h3.1, fun _ => sign_zero h3.2⟩
theorem line_free {d : PD} (h : nameB (nmL d) = true) : (10 : UInt8) ∉ lineT d := by
  have h1 : (10 : UInt8) ∉ nmL d := nameC_free (by decide) h
  have h2 : (10 : UInt8) ∉ itoa d.co := itoa_free (by decide) (by decide)
  have h3 : (10 : UInt8) ∉ wordB d.kd := word_free (.inr rfl) _
  intro hm
  unfold lineT headB tailB at hm
  simp only [List.mem_append, List.mem_cons, List.mem_flatMap] at hm
  rcases hm with (hm | hm | hm | hm | hm) | ⟨x, -, hm | hm⟩
  · exact h1 hm
  · cases hm
  · exact h2 hm
  · cases hm
  · exact h3 hm
  · cases hm
  · exact ratText_free (by decide) (by decide) (by decide) hm
theorem textB_cons (d : PD) (r : List PD) : textB (d :: r) = lineT d ++ 10 :: textB r := by
  simp [textB, lineB_T]
theorem textB_app (a b : List PD) : textB (a ++ b) = textB a ++ textB b := by simp [textB]
/-- Names rise. -/
def Ris (l : List PD) : Prop := l.Pairwise fun a b => bytesBefore (nmL a) (nmL b) = true
theorem name_pos {l : List UInt8} (h : nameB l = true) : bytesBefore [] l = true := by
  cases l with
  | nil => cases h
  | cons a r => rfl
theorem last_before {acc r : List PD} {d : PD} (h : Ris (acc ++ d :: r)) (hn : nameB (nmL d) = true) : bytesBefore (lastN acc) (nmL d) = true := by
  unfold lastN
  cases hl : acc.getLast? with
  | none => exact name_pos hn
  | some a =>
    have ha : a ∈ acc := List.mem_of_getLast? hl
    exact (List.pairwise_append.1 h).2.2 a ha d (by simp)
theorem text_len : ∀ ds : List PD, ds.length ≤ (textB ds).length
  | [] => Nat.zero_le _
  | d :: r => by
    have := text_len r
    rw [textB_cons]
    simp
    omega
/-- A text that is cut. -/
theorem take_text : ∀ (ds : List PD) (k : Nat), (∀ d ∈ ds, okPD d) → k < (textB ds).length → ∃ m t, m < ds.length ∧ (textB ds).take k = textB (ds.take m) ++ t ∧ (10 : UInt8) ∉ t
  | [], k, _, h => by simp [textB] at h
  | d :: r, k, hok, h => by
    have hd := line_free (hok d (by simp)).2.2.1
    rw [textB_cons] at h ⊢
    by_cases hk : k ≤ (lineT d).length
    · refine ⟨0, (lineT d).take k, by simp, ?_, fun hm => hd (List.mem_of_mem_take hm)⟩
      rw [List.take_append_of_le_length hk]
      simp [textB]
    · obtain ⟨j, rfl⟩ : ∃ j, k = (lineT d).length + (j + 1) := ⟨k - (lineT d).length - 1, by omega⟩
      rw [List.length_append, List.length_cons] at h
      obtain ⟨m, t, h1, h2, h3⟩ := take_text r j (fun x hx => hok x (by simp [hx])) (by omega)
      refine ⟨m + 1, t, by simpa using h1, ?_, h3⟩
      rw [List.take_length_add_append, List.take_succ_cons, h2, List.take_succ_cons, textB_cons]
      simp
theorem bef_irr : ∀ a : List UInt8, bytesBefore a a = false
  | [] => rfl
  | a :: r => by
    show (decide (a < a) || (a == a && bytesBefore r r)) = false
    rw [bef_irr r]
    simp
theorem bef_asym : ∀ a b : List UInt8, bytesBefore a b = true → bytesBefore b a = false
  | [], [], h => by cases h
  | [], _ :: _, _ => rfl
  | _ :: _, [], h => by cases h
  | a :: x, b :: y, h => by
    have h : (decide (a < b) || (a == b && bytesBefore x y)) = true := h
    show (decide (b < a) || (b == a && bytesBefore y x)) = false
    rw [Bool.or_eq_true, decide_eq_true_eq, Bool.and_eq_true, beq_iff_eq] at h
    rcases h with h | ⟨rfl, h2⟩
    · have h1 : ¬ b < a := fun e => absurd (UInt8.lt_trans h e) (UInt8.lt_irrefl _)
      have h2 : (b == a) = false := by
        cases hb : b == a with
        | false => rfl
        | true => rw [eq_of_beq hb] at h; exact absurd h (UInt8.lt_irrefl _)
      simp [h1, h2]
    · rw [bef_asym x y h2]
      simp
end Go.Proofs.YtjelnmokcpoofaaGreatDoor
namespace Go.Proofs.YtjelnmokcpoofaaGreatDoor
set_option maxRecDepth 100000
open Go Go.RowKit Go.Proofs
def parseE (s : List UInt8) : Int := match readF s with
  | none => 5
  | some x => capE x
def ParQ (w : World) (s : List UInt8) (e : Ending) (w' : World) : Prop := ∃ f : FV, e = .returned (.tuple #[.agg #[.bool f.b1, .slice f.a1 f.n1 f.c1, .bool f.b2, .slice f.a2 f.n2 f.c2], .int .i64 (parseE s)]) ∧ Ext w w' ∧ (∀ x, readF s = some x → nf x ≤ 2048 → FracO w' w.heap.size (.agg #[.bool f.b1, .slice f.a1 f.n1 f.c1, .bool f.b2, .slice f.a2 f.n2 f.c2]) x)
theorem readF_nf {s : List UInt8} {x : Rat} (h : readF s = some x) : nf x ≤ s.length := by
  cases hc : cutL 47 s with
  | none =>
    rw [readF_miss hc] at h
    cases hr : readI s with
    | none => rw [hr] at h; cases h
    | some n =>
      rw [hr] at h
      simp only [Option.map_some, Option.some.injEq] at h
      subst h
      have h1 := readI_nl hr
      unfold nf
      rw [Rat.num_intCast, Rat.den_intCast]
      refine Nat.max_le.2 ⟨h1, ?_⟩
      refine Nat.le_trans (lim_one_le (by decide)) ?_
      have hs : s ≠ [] := by
        intro e
        rw [e] at hr
        cases hr
      exact List.length_pos_iff.2 hs
  | some p =>
    obtain ⟨f, b⟩ := p
    rw [readF_hit hc] at h
    have hl := congrArg List.length (cutL_some hc).1
    rw [List.length_append, List.length_cons] at hl
    cases hr : readI f with
    | none => rw [hr] at h; cases h
    | some n =>
      cases hq : readI b with
      | none => rw [hr, hq] at h; cases h
      | some d =>
        rw [hr, hq] at h
        simp only at h
        split at h
        · rename_i hd
          cases h
          obtain ⟨e1, e2⟩ := rat_parts (by omega) hd.2
          unfold nf
          rw [e1, e2]
          have h1 := readI_nl hr
          have h2 := readI_nl hq
          exact Nat.max_le.2 ⟨by omega, by omega⟩
        · cases h
set_option maxHeartbeats 3200000 in
theorem parse_c (s : ByteArray) (w : World) (hs : s.size ≤ 65536) (hm : Max0 w) : Calls Tryz.prog 39 #[.string s] w (ParQ w s.data.toList) := by
  obtain ⟨w1, hw1⟩ : ∃ w1, w1 = w.alloc (.cells #[.bool false, .slice none 0 0, .bool false, .slice none 0 0] 52) := ⟨_, rfl⟩
  have hE1 := mkHid (show Ext w w1 by rw [hw1]; exact (Ext.refl w).al _)
  have z1 := mkHid (show w1.heap[w.heap.size]? = some (.cells #[.bool false, .slice none 0 0, .bool false, .slice none 0 0] 52 (0, 0)) by rw [hw1]; exact heap_alloc_new _ _)
  have hz1 := mkHid (show w1.heap.size = w.heap.size + 1 by rw [hw1]; simp)
  have KR := mkHid (ratRead_c s w1 hs (hm.ext hE1.out))
  have hnf := mkHid (fun x (h : readF s.data.toList = some x) => Nat.le_trans (readF_nf h) (by rw [list_size]; exact hs))
  have hs' : ¬ (65536 : Int) < (s.size : Int) := by omega
  unfold ParQ parseE
  generalize readF s.data.toList = o at *
  replace hw1 := mkHid hw1
  clear hm hs
  cases o with
  | none =>
    go_enter Tryz.func39, Tryz.ntmps39
    have tok : Tok 0 := .mk _
    go_wp2_with (first
      | ((have _t : Tok 0 := tok); clear _t; clear tok; (have tok : Tok 1 := .mk _); go_at_call 76; rw [← hw1.out]; refine KR.out.mono ?_; rintro e w2 ⟨f, b, rfl, hx2, ho⟩; (obtain rfl : b = false := (by rcases ho with ⟨_, h⟩ | ⟨x, h, _⟩; exact h; cases h));
          (obtain ⟨w3, hw3⟩ : ∃ w3, w3 = (w2.alloc (.cells #[.bool false, .slice none 0 0, .bool false, .slice none 0 0] 52)).setRow w2.heap.size #[.bool f.b1, .slice f.a1 f.n1 f.c1, .bool f.b2, .slice f.a2 f.n2 f.c2] := ⟨_, rfl⟩); (have hx3 : Ext w2 w3 := by rw [hw3]; exact ((Ext.refl w2).al _).row (Nat.le_refl _) _); (have hE3 := mkHid ((hE1.out.trans hx2).trans hx3)); (have z3 := mkHid ((hx2.trans hx3).blk z1.out)); replace hw3 := mkHid hw3; clear ho hx2 hx3)
      | ((have _t : Tok 1 := tok); clear _t; clear tok; (have tok : Tok 2 := .mk _); refine wpList_store_row rfl 52 (.tmp 4) (.tmp 13) rfl w2.heap.size #[.bool f.b1, .slice f.a1 f.n1 f.c1, .bool f.b2, .slice f.a2 f.n2 f.c2] rfl rfl 52 _ (heap_alloc_new _ _) (by kernel_rfl) rfl (by kernel_rfl) ?_; rw [← hw3.out])
      | ((have _t : Tok 2 := tok); clear _t; clear tok; (have tok : Tok 3 := .mk _); refine wpList_store_row rfl 52 (.tmp 2) (.tmp 17) rfl w.heap.size #[.bool false, .slice none 0 0, .bool false, .slice none 0 0] rfl rfl 52 _ z3.out (by kernel_rfl) rfl (by kernel_rfl) ?_))
    refine bodyPost_ret (results_row_tmp rfl _ _ w.heap.size 52 #[.bool false, .slice none 0 0, .bool false, .slice none 0 0] _ _ rfl rfl (setRow_heap _ _ _ _ _ _ z3.out) Tryz.underlying52 rfl (by kernel_rfl)) rfl ?_
    exact ⟨⟨false, none, 0, 0, false, none, 0, 0⟩, rfl, hE3.out.row (Nat.le_refl _) _, fun x h => by cases h⟩
  | some x =>
    have hx := hnf.out x rfl
    have KA := mkHid (fun W v h => answered_o v x W (Nat.le_trans hx (by decide)) h)
    clear hnf hx
    go_enter Tryz.func39, Tryz.ntmps39
    have tok : Tok 0 := .mk _
    go_wp2_with (first
      | ((have _t : Tok 0 := tok); clear _t; clear tok; (have tok : Tok 1 := .mk _); go_at_call 76; rw [← hw1.out]; refine KR.out.mono ?_; rintro e w2 ⟨f, b, rfl, hx2, ho⟩; (obtain ⟨rfl, hf⟩ : b = true ∧ FracO w2 w1.heap.size (.agg #[.bool f.b1, .slice f.a1 f.n1 f.c1, .bool f.b2, .slice f.a2 f.n2 f.c2]) x := (by rcases ho with ⟨h, _⟩ | ⟨y, h, h2, h3⟩; cases h; cases h; exact ⟨h2, h3⟩));
          (obtain ⟨w3, hw3⟩ : ∃ w3, w3 = (w2.alloc (.cells #[.bool false, .slice none 0 0, .bool false, .slice none 0 0] 52)).setRow w2.heap.size #[.bool f.b1, .slice f.a1 f.n1 f.c1, .bool f.b2, .slice f.a2 f.n2 f.c2] := ⟨_, rfl⟩); (have hx3 : Ext w2 w3 := by rw [hw3]; exact ((Ext.refl w2).al _).row (Nat.le_refl _) _); (have hE3 := mkHid ((hE1.out.trans hx2).trans hx3)); (have z3 := mkHid ((hx2.trans hx3).blk z1.out)); (have y3 := mkHid (show w3.heap[w2.heap.size]? = some (.cells #[.bool f.b1, .slice f.a1 f.n1 f.c1, .bool f.b2, .slice f.a2 f.n2 f.c2] 52 (0, 0)) by rw [hw3]; exact setRow_heap _ _ _ _ _ _ (heap_alloc_new _ _))); (have hf3 := mkHid (hf.r.ext hx3)); replace hw3 := mkHid hw3; clear ho hx2 hx3 hf)
      | ((have _t : Tok 1 := tok); clear _t; clear tok; (have tok : Tok 2 := .mk _); refine wpList_store_row rfl 52 (.tmp 4) (.tmp 13) rfl w2.heap.size #[.bool f.b1, .slice f.a1 f.n1 f.c1, .bool f.b2, .slice f.a2 f.n2 f.c2] rfl rfl 52 _ (heap_alloc_new _ _) (by kernel_rfl) rfl (by kernel_rfl) ?_; rw [← hw3.out])
      | ((have _t : Tok 2 := tok); clear _t; clear tok; (have tok : Tok 3 := .mk _); refine wpList_load_row (by rfl) 52 (.tmp 4) rfl w2.heap.size rfl 52 #[.bool f.b1, .slice f.a1 f.n1 f.c1, .bool f.b2, .slice f.a2 f.n2 f.c2] (0, 0) _ y3.out Tryz.underlying52 rfl (by kernel_rfl) ?_)
      | ((have _t : Tok 3 := tok); clear _t; clear tok; (have tok : Tok 4 := .mk _); go_at_call 77; refine (KA.out w3 _ hf3.out).mono ?_; rintro e w4 ⟨g, rfl, hx4, hg⟩; (have z4 := mkHid (hx4.blk z3.out)); (have hlt := mkHid (Nat.lt_of_lt_of_le (Array.getElem?_eq_some_iff.1 z3.out).1 (Nat.le_refl _))); (have hE4 := mkHid (hE3.out.trans hx4)); replace hg := mkHid hg; clear hx4)
      | ((have _t : Tok 4 := tok); clear _t; clear tok; (have tok : Tok 5 := .mk _); refine wpList_store_row rfl 52 (.tmp 2) (.tmp 20) rfl w.heap.size #[.bool g.b1, .slice g.a1 g.n1 g.c1, .bool g.b2, .slice g.a2 g.n2 g.c2] rfl rfl 52 _ z4.out (by kernel_rfl) rfl (by kernel_rfl) ?_))
    refine bodyPost_ret (results_row_tmp rfl _ _ w.heap.size 52 #[.bool g.b1, .slice g.a1 g.n1 g.c1, .bool g.b2, .slice g.a2 g.n2 g.c2] _ _ rfl rfl (setRow_heap _ _ _ _ _ _ z4.out) Tryz.underlying52 rfl (by kernel_rfl)) rfl ?_
    refine ⟨g, rfl, hE4.out.row (Nat.le_refl _) _, fun y h hn => ?_⟩
    cases h
    exact ((hg.out hn).row hlt.out _).mono (Nat.le_of_lt hlt.out)
/-- What number answers of a number's digits. -/
theorem number_ok (n : Int) (w : World) (h0 : 0 ≤ n) (h1 : n ≤ 1073741824) (ht : Tab10 w) :
    Calls Tryz.prog 37 #[.string ⟨(Lib.itoa n).toArray⟩] w fun e w' => e = .returned (.tuple #[.int .i64 n, .bool true]) ∧ Ext w w' := by
  have hsz : (⟨(Lib.itoa n).toArray⟩ : ByteArray).size ≤ 10 := by rw [str_len]; exact itoa_short h0 h1
  have KA := fun W => Tryz.strconv_Atoi ⟨(Lib.itoa n).toArray⟩ n (by omega) (atoi_itoa h0) W
  have KI : ∀ W, Ext w W → Calls Tryz.prog 21 #[.int .i64 n] W fun e w' => e = .returned (.string ⟨(Lib.itoa n).toArray⟩) ∧ Ext W w' := fun W e => (Tryz.strconv_Itoa n (by omega) (by omega) W (tab_ext ht e)).mono fun e w' h => by
    obtain ⟨rfl, k, os, rfl⟩ := h
    exact ⟨rfl, ⟨rfl, rfl, rfl, by simp [Go.Sort.grow, World.drewN], fun j hj => by simp [Go.Sort.grow, World.drewN, Array.getElem?_append, hj]⟩⟩
  generalize (⟨(Lib.itoa n).toArray⟩ : ByteArray) = s at *
  have hb : (s.toList == s.toList) = true := by simp
  have hsz' : (s.size : Int) ≤ 10 := by omega
  replace KA := mkHid KA
  replace KI := mkHid KI
  clear ht hsz
  go_enter Tryz.func37, Tryz.ntmps37
  have tok : Tok 0 := .mk _
  go_wp2_with (first
    | ((have _t : Tok 0 := tok); clear _t; clear tok; (have tok : Tok 1 := .mk _); go_at_call 74; refine (KA.out _).mono ?_; rintro e w1 ⟨rfl, t, hw⟩; (have hE : Ext w w1 := by rw [hw]; exact Joins.below_bytesWorld _ _ _ _ (Nat.le_refl _)); clear hw; replace hE := mkHid hE)
    | ((have _t : Tok 1 := tok); clear _t; clear tok; (have tok : Tok 2 := .mk _); go_at_call 21; refine (KI.out _ hE.out).mono ?_; rintro e w2 ⟨rfl, hx⟩; replace hE := mkHid (hE.out.trans hx); clear hx))
  go_ret2
  exact ⟨rfl, hE.out⟩
end Go.Proofs.YtjelnmokcpoofaaGreatDoor
namespace Go.Proofs.YtjelnmokcpoofaaGreatDoor
set_option maxRecDepth 100000
open Go Go.RowKit Go.Proofs Go.WideElems Go.ChangeMaps Go.MapKept
def newM (s : ByteArray) (v : Value) (clock : Nat) : Obj := .map #[⟨.string s, v, clock⟩] (clock + 1)
theorem entry_new (W : World) (M clock : Nat) (s : ByteArray) (hs : s.size ≤ maxLen) (hb : W.heap[M]? = some (.map #[] clock)) :
    (Instr.mapEntry 59 (.map (some M)) (.string s)).run Tryz.prog W = .ok (.tuple #[zeroPart, .int .i64 clock]) (setBlock W M (newM s zeroPart clock)) := by
  have K := WideMaps.string_law (P := Tryz.prog) (k := 9) Tryz.underlying9
  have hkey := key_str hs
  rcases K.find W hkey [] (by simp) with ⟨h1, h2⟩ | ⟨j, e0, h1, h2, h3⟩
  · simp [Instr.mapEntry, run_underlying Tryz.underlying59, MapKept.run_getObj_map hb, K.check W false hkey, h1, zero_part W, MapKept.run_setObj_map _ hb, Result.andThen, setBlock, newM, goInt]
  · simp at h2
theorem entry_old (W : World) (M clock : Nat) (s : ByteArray) (x : Value) (hs : s.size ≤ maxLen) (hb : W.heap[M]? = some (newM s x clock)) :
    (Instr.mapEntry 59 (.map (some M)) (.string s)).run Tryz.prog W = .ok (.tuple #[x, .int .i64 clock]) (setBlock W M (newM s x clock)) := by
  have K := WideMaps.string_law (P := Tryz.prog) (k := 9) Tryz.underlying9
  have hkey := key_str hs
  unfold newM at hb
  rcases K.find W hkey [⟨.string s, x, clock⟩] (by intro e he; rw [List.mem_singleton] at he; subst he; exact ⟨_, hkey⟩) with ⟨h1, h2⟩ | ⟨j, e0, h1, h2, h3⟩
  · exact absurd rfl (h2 _ (List.mem_singleton.2 rfl))
  · have hj : j = 0 := by
      have := (List.getElem?_eq_some_iff.1 h2).1
      simpa using this
    subst hj
    simp only [List.getElem?_cons_zero, Option.some.injEq] at h2
    subst h2
    simp [Instr.mapEntry, run_underlying Tryz.underlying59, MapKept.run_getObj_map hb, K.check W false hkey, h1, K.stays W hkey, MapKept.run_setObj_map _ hb, Result.andThen, setBlock, newM, goInt]
theorem entry_store (W : World) (M clock : Nat) (s : ByteArray) (x val : Value) (hb : W.heap[M]? = some (newM s x clock)) :
    (Instr.entryStore 59 (.map (some M)) (.int .i64 clock) val).run Tryz.prog W = .ok () (setBlock W M (newM s val clock)) := by
  unfold newM at hb
  simp [Instr.entryStore, MapKept.run_getObj_map hb, asInt, asIntOf, MapKept.run_setObj_map _ hb, Result.andThen, setBlock, newM]
/-- All blocks are as they were but one; that is as it was, or has the new entry. -/
structure EnR (M : Nat) (s : ByteArray) (clock : Nat) (w w' : World) : Prop where
  os : w'.os = w.os
  tape : w'.tape = w.tape
  output : w'.output = w.output
  size : w.heap.size ≤ w'.heap.size
  block : ∀ k, k < w.heap.size → k ≠ M → w'.heap[k]? = w.heap[k]?
  map : w'.heap[M]? = w.heap[M]? ∨ (∃ x, w'.heap[M]? = some (newM s x clock)) ∨ w.heap.size ≤ M
theorem EnR.of_ext {M clock : Nat} {s : ByteArray} {w w' : World} (e : Ext w w') : EnR M s clock w w' :=
  ⟨e.os, e.tape, e.output, e.size, fun k h _ => e.block k h, by
    rcases Nat.lt_or_ge M w.heap.size with h | h
    · exact .inl (e.block M h)
    · exact .inr (.inr h)⟩
theorem EnR.trans {M clock : Nat} {s : ByteArray} {a b c : World} (h : EnR M s clock a b) (k : EnR M s clock b c) : EnR M s clock a c := by
  refine ⟨k.os.trans h.os, k.tape.trans h.tape, k.output.trans h.output, Nat.le_trans h.size k.size, fun i hi hn => (k.block i (Nat.lt_of_lt_of_le hi h.size) hn).trans (h.block i hi hn), ?_⟩
  rcases k.map with e | e | e
  · rcases h.map with f | ⟨x, f⟩ | f
    · exact .inl (e.trans f)
    · exact .inr (.inl ⟨x, e.trans f⟩)
    · exact .inr (.inr f)
  · exact .inr (.inl e)
  · exact .inr (.inr (Nat.le_trans h.size e))
theorem EnR.blk {M k clock : Nat} {s : ByteArray} {w w' : World} {o : Obj} (h : EnR M s clock w w') (hk : w.heap[k]? = some o) (hne : k ≠ M) : w'.heap[k]? = some o :=
  (h.block k (Array.getElem?_eq_some_iff.1 hk).1 hne).trans hk
theorem EnR.set {M clock : Nat} {s : ByteArray} {old : Obj} {w : World} (x : Value) (ho : w.heap[M]? = some old) : EnR M s clock w (setBlock w M (newM s x clock)) := by
  have hlt : M < w.heap.size := (Array.getElem?_eq_some_iff.1 ho).1
  refine ⟨rfl, rfl, rfl, by simp [setBlock], fun k _ hne => ?_, .inr (.inl ⟨x, ?_⟩)⟩
  · simp [setBlock, Array.getElem?_setIfInBounds_ne (Ne.symm hne)]
  · simp [setBlock, hlt]
theorem region_entry {id : Nat} {l : List Oper} {a : Act} {w : World} {Q : Exit → Act → World → Prop} (M : Nat) (s : ByteArray) (clock : Nat) (specs : List FSpec) (hok : okFreeS specs.length a.tmps.size l = true) (hst : StableAll (EnR M s clock) specs) (hvo : VoidAll l specs)
    (h : freeSteps Tryz.prog l (EnR M s clock) w Q 0 specs l a []) : (Code.region id l.toArray true).wp Tryz.prog Q a w :=
  region_freeS (EnR M s clock) specs mixed hok (fun w => .of_ext (Ext.refl w)) (fun _ _ _ => EnR.trans) (fun w => .of_ext ((Ext.refl w).dr)) (stableAll_mem hst) hvo h
theorem fr_entry {P : Program} {S : World → Value → Prop} {o : Oper} {a : Act} {W : World} {X : Prop} {c : Prop} {ic : Decidable c} (hw : c) (ty : TypeId) (m k : Operand) (ho : o.op = .mapEntry ty m k) (vm vk : Value)
    (hm : a.eval m = vm) (hk : a.eval k = vk) (h : ∃ v W', (Instr.mapEntry ty vm vk).run P W = .ok v W' ∧ S W' v) : if c then givesV P S ((execOp a.eval o).run P W) else X := by
  obtain ⟨v, W', hr, h⟩ := h
  rw [if_pos hw]
  unfold execOp
  simp only [ho, hm, hk, Sem.run_bind, hr, Result.andThen_ok, Sem.run_pure]
  exact h
theorem fr_estore {P : Program} {S : World → Value → Prop} {o : Oper} {a : Act} {W : World} {X : Prop} {c : Prop} {ic : Decidable c} (hw : c) (ty : TypeId) (m k x : Operand) (ho : o.op = .entryStore ty m k x) (vm vk vx : Value)
    (hm : a.eval m = vm) (hk : a.eval k = vk) (hx : a.eval x = vx) (h : ∃ W', (Instr.entryStore ty vm vk vx).run P W = .ok () W' ∧ S W' undef) : if c then givesV P S ((execOp a.eval o).run P W) else X := by
  obtain ⟨W', hr, h⟩ := h
  rw [if_pos hw]
  unfold execOp
  simp only [ho, hm, hk, hx, Sem.run_bind, hr, Result.andThen_ok, Sem.run_pure]
  exact h
theorem fr_extract1 {P : Program} {S : World → Value → Prop} {o : Oper} {a : Act} {W : World} {X : Prop} {c : Prop} {ic : Decidable c} (hw : c) (x : Operand) (ho : o.op = .extract x 1) (vx y : Value) (hx : a.eval x = vx) (h : ∃ u, vx = .tuple #[u, y]) (hS : S W y) :
    if c then givesV P S ((execOp a.eval o).run P W) else X := by
  obtain ⟨u, rfl⟩ := h
  rw [if_pos hw]
  unfold execOp
  simp only [ho, hx]
  simp [Instr.extract]
  exact hS
def EntV (M : Nat) (s : ByteArray) (clock : Nat) (W : World) (v : Value) : Prop := (∃ x, v = .tuple #[x, .int .i64 clock]) ∧ ∃ x, W.heap[M]? = some (newM s x clock)
theorem EntV.stable {M clock : Nat} {s : ByteArray} {W W' : World} {v : Value} (e : EnR M s clock W W') (h : EntV M s clock W v) : EntV M s clock W' v := by
  refine ⟨h.1, ?_⟩
  obtain ⟨x, hx⟩ := h.2
  rcases e.map with f | f | f
  · exact ⟨x, f.trans hx⟩
  · exact f
  · have := (Array.getElem?_eq_some_iff.1 hx).1
    omega
def ClkV (M : Nat) (s : ByteArray) (clock : Nat) (W : World) (v : Value) : Prop := v = .int .i64 clock ∧ ∃ x, W.heap[M]? = some (newM s x clock)
theorem stE_clk {M clock : Nat} {s : ByteArray} {ss : List FSpec} (h : StableAll (EnR M s clock) ss) : StableAll (EnR M s clock) (.pred (ClkV M s clock) :: ss) := ⟨fun _ _ _ e k => ⟨k.1, (EntV.stable (v := .tuple #[undef, .int .i64 clock]) e ⟨⟨undef, rfl⟩, k.2⟩).2⟩, h⟩
def AnyV (_ : World) (_ : Value) : Prop := True
theorem stE_val {M clock : Nat} {s : ByteArray} {ss : List FSpec} (c : Value) (h : StableAll (EnR M s clock) ss) : StableAll (EnR M s clock) (.val c :: ss) := stable_vals c h
theorem stE_ent {M clock : Nat} {s : ByteArray} {ss : List FSpec} (h : StableAll (EnR M s clock) ss) : StableAll (EnR M s clock) (.pred (EntV M s clock) :: ss) := ⟨fun _ _ _ e k => k.stable e, h⟩
theorem stE_any {M clock : Nat} {s : ByteArray} {ss : List FSpec} (h : StableAll (EnR M s clock) ss) : StableAll (EnR M s clock) (.pred AnyV :: ss) := ⟨fun _ _ _ _ _ => trivial, h⟩
theorem cat_empty {w : World} {g M : Nat} (h : Cat w g M []) : ∃ clock, w.heap[M]? = some (.map #[] clock) := by
  obtain ⟨es, clock, h1, -, h2, -⟩ := h.map
  have : es = #[] := Array.eq_empty_of_size_eq_zero (by simpa using h2)
  rw [this] at h1
  exact ⟨clock, h1⟩
set_option maxRecDepth 100000 in
set_option maxHeartbeats 800000 in
/-- **Parse of "b 1 flip\na 1 flip\n".** -/
theorem parse_two (w : World) (hm : Max0 w) : Calls Tryz.prog 6 #[.string ⟨#[98, 32, 49, 32, 102, 108, 105, 112, 10, 97, 32, 49, 32, 102, 108, 105, 112, 10]⟩] w fun e w' => e = .returned (.tuple #[.pointer none, .int .i64 1, .int .i64 5]) ∧ Ext w w' := by
  have KN := mkHid (new_c w)
  have KC1 : Hid (∀ (W : World), Max0 W → Calls Tryz.prog 15 #[.string ⟨#[98, 32, 49, 32, 102, 108, 105, 112, 10, 97, 32, 49, 32, 102, 108, 105, 112, 10]⟩, .string ⟨#[10]⟩] W fun e w' => e = .returned (.tuple #[.string ⟨#[98, 32, 49, 32, 102, 108, 105, 112]⟩, .string ⟨#[97, 32, 49, 32, 102, 108, 105, 112, 10]⟩, .bool true]) ∧ Ext W w') := mkHid fun W ⟨m, h⟩ => (Tryz.strings_Cut _ _ m W (by decide) h).mono fun e w' k => ⟨k.1.trans (by kernel_rfl), by obtain ⟨n, e2⟩ := k.2; rw [e2]; exact (Ext.refl W).drN n⟩
  have KC2 : Hid (∀ (W : World), Max0 W → Calls Tryz.prog 15 #[.string ⟨#[97, 32, 49, 32, 102, 108, 105, 112, 10]⟩, .string ⟨#[10]⟩] W fun e w' => e = .returned (.tuple #[.string ⟨#[97, 32, 49, 32, 102, 108, 105, 112]⟩, .string ⟨#[]⟩, .bool true]) ∧ Ext W w') := mkHid fun W ⟨m, h⟩ => (Tryz.strings_Cut _ _ m W (by decide) h).mono fun e w' k => ⟨k.1.trans (by kernel_rfl), by obtain ⟨n, e2⟩ := k.2; rw [e2]; exact (Ext.refl W).drN n⟩
  have KB := mkHid (fun W h => read_b W h)
  have KA := mkHid (fun W h => read_a W h)
  have l1 : Op.bytesLess [97] [98] = true := rfl
  have l2 : Op.bytesLess [98] [] = false := rfl
  have hM := mkHid (fun W (e : Ext w W) => hm.ext e)
  clear hm
  go_enter Tryz.func6, Tryz.ntmps6
  have tok : Tok 0 := .mk _
  go_wp2_with ((have _t : Tok 0 := tok); clear _t; clear tok; (have tok : Tok 1 := .mk _); go_at_call 14; refine KN.out.mono ?_; rintro e w1 ⟨g, M, rfl, hcat, hE1, hg, hMl⟩; replace hcat := mkHid hcat; replace hE1 := mkHid hE1)
  clear KN tok
  refine wp_loop_rounds 2 ?_
  rw [rounds_succ]
  have tok : Tok 2 := .mk _
  go_wp2_with (first
    | ((have _t : Tok 2 := tok); clear _t; clear tok; (have tok : Tok 3 := .mk _); go_at_call 15; refine (KC1.out _ (hM.out _ hE1.out)).mono ?_; rintro e w2 ⟨rfl, hx⟩; (have hE2 := mkHid (hE1.out.trans hx)); (have hc2 := mkHid (hcat.out.ext hx)); clear hx)
    | ((have _t : Tok 3 := tok); clear _t; clear tok; (have tok : Tok 4 := .mk _); go_at_call 16; refine (KB.out _ (hM.out _ hE2.out)).mono ?_; rintro e w3 ⟨v3, rfl, hf3, hx⟩; (have hE3 := mkHid (hE2.out.trans hx)); (have hc3 := hc2.out.ext hx); (obtain ⟨p, q, rfl, -, -⟩ := hf3); clear hx;
        (obtain ⟨w4, hw4⟩ : ∃ w4, w4 = (w3.alloc (.cells #[.string ⟨#[]⟩, .int .u8 0, .bool false, .slice none 0 0, .bool false, .slice none 0 0, .bool false, .slice none 0 0, .bool false, .slice none 0 0, .int .i64 0] 56)).setRow w3.heap.size #[.string ⟨#[98]⟩, .int .u8 5, .bool p.b1, .slice p.a1 p.n1 p.c1, .bool p.b2, .slice p.a2 p.n2 p.c2, .bool q.b1, .slice q.a1 q.n1 q.c1, .bool q.b2, .slice q.a2 q.n2 q.c2, .int .i64 1] := ⟨_, rfl⟩);
        (have zn := heap_alloc_new w3 (.cells #[.string ⟨#[]⟩, .int .u8 0, .bool false, .slice none 0 0, .bool false, .slice none 0 0, .bool false, .slice none 0 0, .bool false, .slice none 0 0, .int .i64 0] 56));
        (have z4 := mkHid (show w4.heap[w3.heap.size]? = some (.cells #[.string ⟨#[98]⟩, .int .u8 5, .bool p.b1, .slice p.a1 p.n1 p.c1, .bool p.b2, .slice p.a2 p.n2 p.c2, .bool q.b1, .slice q.a1 q.n1 q.c1, .bool q.b2, .slice q.a2 q.n2 q.c2, .int .i64 1] 56 (0, 0)) by rw [hw4]; exact setRow_heap _ _ _ _ _ _ zn));
        (have hx4 : Ext w3 w4 := by rw [hw4]; exact ((Ext.refl w3).al _).row (Nat.le_refl _) _);
        (have hc4 := mkHid (hc3.ext hx4)); (have hE4 := mkHid (hE3.out.trans hx4)); (have hgM : w3.heap.size ≠ M := by have := hc3.map.lt; omega); replace hw4 := mkHid hw4; replace zn := mkHid zn; clear hx4 hc3)
    | ((have _t : Tok 4 := tok); clear _t; clear tok; (have tok : Tok 5 := .mk _); refine wpList_store_row rfl 56 (.tmp 9) (.tmp 31) rfl w3.heap.size #[.string ⟨#[98]⟩, .int .u8 5, .bool p.b1, .slice p.a1 p.n1 p.c1, .bool p.b2, .slice p.a2 p.n2 p.c2, .bool q.b1, .slice q.a1 q.n1 q.c1, .bool q.b2, .slice q.a2 q.n2 q.c2, .int .i64 1] rfl rfl 56 _ zn.out (by kernel_rfl) rfl (by kernel_rfl) ?_; rw [← hw4.out]; (have c0 : w4.cell? ⟨w3.heap.size, 0, none⟩ = some (.string ⟨#[98]⟩) := row16_cells z4.out 0)))
  clear tok c0
  obtain ⟨clock, hck⟩ := cat_empty hc4.out
  have hgs := hc4.out.str
  have hgne : g ≠ M := hc4.out.ne
  have hMlt := (Array.getElem?_eq_some_iff.1 hck).1
  have HL : ∀ W, EnR M ⟨#[98]⟩ clock w4 W → W.cell? ⟨g, 0, none⟩ = some (.map (some M)) := fun W e => cell0 (e.blk hgs hgne)
  have HS : ∀ W, EnR M ⟨#[98]⟩ clock w4 W → W.cell? ⟨w3.heap.size, 0, none⟩ = some (.string ⟨#[98]⟩) := fun W e => row16_cells (e.blk z4.out hgM) 0
  have HP := mkHid (fun W (e : EnR M ⟨#[98]⟩ clock w4 W) => e.blk z4.out hgM)
  have hset : Hid (∀ (W : World) (x : Value) {o : Obj}, W.heap[M]? = some o → (setBlock W M (newM ⟨#[98]⟩ x clock)).heap[M]? = some (newM ⟨#[98]⟩ x clock)) := mkHid fun W x o h => by
    have := (Array.getElem?_eq_some_iff.1 h).1
    simp [setBlock, this]
  have HE : Hid (∀ W, EnR M ⟨#[98]⟩ clock w4 W → ∃ v W', (Instr.mapEntry 59 (.map (some M)) (.string ⟨#[98]⟩)).run Tryz.prog W = .ok v W' ∧ (EnR M ⟨#[98]⟩ clock W W' ∧ EntV M ⟨#[98]⟩ clock W' v)) := mkHid fun W e => by
    rcases e.map with f | ⟨x, f⟩ | f
    · exact ⟨_, _, entry_new W M clock _ (by decide) (f.trans hck), EnR.set _ (f.trans hck), ⟨_, rfl⟩, _, hset.out _ _ (f.trans hck)⟩
    · exact ⟨_, _, entry_old W M clock _ x (by decide) f, EnR.set _ f, ⟨_, rfl⟩, _, hset.out _ _ f⟩
    · omega
  have HX : Hid (∀ W, (∃ x, W.heap[M]? = some (newM ⟨#[98]⟩ x clock)) → ∃ W', (Instr.entryStore 59 (.map (some M)) (.int .i64 clock) (.agg #[.string ⟨#[98]⟩, .int .u8 5, .bool p.b1, .slice p.a1 p.n1 p.c1, .bool p.b2, .slice p.a2 p.n2 p.c2, .bool q.b1, .slice q.a1 q.n1 q.c1, .bool q.b2, .slice q.a2 q.n2 q.c2, .int .i64 1])).run Tryz.prog W = .ok () W' ∧ (EnR M ⟨#[98]⟩ clock W W' ∧ AnyV W' undef)) := mkHid fun W ⟨x, h⟩ => ⟨_, entry_store W M clock _ x _ h, EnR.set _ h, trivial⟩
  replace hck := mkHid hck
  clear hgs hMlt
  apply region_entry M ⟨#[98]⟩ clock [.val (.pointer (some ⟨g, 0, none⟩)), .val (.pointer (some ⟨g, 0, none⟩)), .val (.pointer (some ⟨g, 0, none⟩)), .val (.map (some M)), .val (.pointer (some ⟨w3.heap.size, 0, none⟩)), .val (.string ⟨#[98]⟩), .val (.agg #[.string ⟨#[98]⟩, .int .u8 5, .bool p.b1, .slice p.a1 p.n1 p.c1, .bool p.b2, .slice p.a2 p.n2 p.c2, .bool q.b1, .slice q.a1 q.n1 q.c1, .bool q.b2, .slice q.a2 q.n2 q.c2, .int .i64 1]), .val (.pointer (some ⟨w3.heap.size, 0, none⟩)), .val (.string ⟨#[98]⟩), .val (.string ⟨#[97, 32, 49, 32, 102, 108, 105, 112, 10]⟩), .pred (EntV M ⟨#[98]⟩ clock), .pred (ClkV M ⟨#[98]⟩ clock), .pred AnyV, .val (.string ⟨#[98]⟩)]
  case hok => kernel_rfl
  case hst => exact (stE_val _ (stE_val _ (stE_val _ (stE_val _ (stE_val _ (stE_val _ (stE_val _ (stE_val _ (stE_val _ (stE_val _ (stE_ent (stE_clk (stE_any (stE_val _ trivial))))))))))))))
  case hvo =>
    iterate 12 (refine ⟨(by intro h; cases h), ?_⟩)
    exact ⟨fun _ _ _ _ => trivial, (by intro h; cases h), trivial⟩
  iterate 3 (refine ⟨fun W hW _ => by go_simp; first | exact ⟨.of_ext (Ext.refl _), rfl⟩ | exact .of_ext (Ext.refl _), ?_⟩)
  refine ⟨fun W hW _ => by have := HL W hW; go_simp; first | exact ⟨.of_ext (Ext.refl _), rfl⟩ | exact .of_ext (Ext.refl _), ?_⟩
  refine ⟨fun W hW _ => by go_simp; first | exact ⟨.of_ext (Ext.refl _), rfl⟩ | exact .of_ext (Ext.refl _), ?_⟩
  refine ⟨fun W hW _ => by have := HS W hW; go_simp; first | exact ⟨.of_ext (Ext.refl _), rfl⟩ | exact .of_ext (Ext.refl _), ?_⟩
  refine ⟨?ld, ?_⟩
  case ld =>
    intro W hW hF
    have hr := HP.out W hW
    with_reducible refine fr_load ?zhw 56 (.tmp 9) ?zho w3.heap.size ?zhx 56 #[.string ⟨#[98]⟩, .int .u8 5, .bool p.b1, .slice p.a1 p.n1 p.c1, .bool p.b2, .slice p.a2 p.n2 p.c2, .bool q.b1, .slice q.a1 q.n1 q.c1, .bool q.b2, .slice q.a2 q.n2 q.c2, .int .i64 1] (0, 0) _ hr Tryz.underlying56 ?zhd ?zhi ?zh
    case zhw => kernel_rfl
    case zho => rfl
    case zhx => kernel_rfl
    case zhd => rfl
    case zhi => kernel_rfl
    case zh => exact ⟨.of_ext (Ext.refl _), rfl⟩
  refine ⟨fun W hW _ => by go_simp; first | exact ⟨.of_ext (Ext.refl _), rfl⟩ | exact .of_ext (Ext.refl _), ?_⟩
  refine ⟨fun W hW _ => by have := HS W hW; go_simp; first | exact ⟨.of_ext (Ext.refl _), rfl⟩ | exact .of_ext (Ext.refl _), ?_⟩
  refine ⟨fun W hW _ => by go_simp; first | exact ⟨.of_ext (Ext.refl _), rfl⟩ | exact .of_ext (Ext.refl _), ?_⟩
  refine ⟨?en, fun v10 => ?_⟩
  case en =>
    intro W hW hF
    have y1 := HE.out W hW
    with_reducible refine fr_entry ?zhw 59 (.tmp 51) (.tmp 53) ?zho (.map (some M)) (.string ⟨#[98]⟩) ?zhm ?zhk y1
    case zhw => kernel_rfl
    case zho => rfl
    case zhm => kernel_rfl
    case zhk => kernel_rfl
  refine ⟨?ex, fun v11 => ?_⟩
  case ex =>
    intro W hW hF
    have hv : (∃ x, v10 = .tuple #[x, .int .i64 clock]) ∧ ∃ x, W.heap[M]? = some (newM ⟨#[98]⟩ x clock) := hF.1 (by kernel_rfl)
    with_reducible refine fr_extract1 ?zhw (.tmp 58) ?zho v10 (.int .i64 clock) ?zhx hv.1 ?zh
    case zhw => kernel_rfl
    case zho => rfl
    case zhx => kernel_rfl
    case zh => exact ⟨.of_ext (Ext.refl _), rfl, hv.2⟩
  refine ⟨?es, fun v12 => ?_⟩
  case es =>
    intro W hW hF
    have hv : v11 = .int .i64 clock ∧ ∃ x, W.heap[M]? = some (newM ⟨#[98]⟩ x clock) := hF.1 (by kernel_rfl)
    have y1 := HX.out W hv.2
    rw [← hv.1] at y1
    with_reducible refine fr_estore ?zhw 59 (.tmp 51) (.tmp 59) (.tmp 54) ?zho (.map (some M)) v11 (.agg #[.string ⟨#[98]⟩, .int .u8 5, .bool p.b1, .slice p.a1 p.n1 p.c1, .bool p.b2, .slice p.a2 p.n2 p.c2, .bool q.b1, .slice q.a1 q.n1 q.c1, .bool q.b2, .slice q.a2 q.n2 q.c2, .int .i64 1]) ?zhm ?zhk ?zhx y1
    case zhw => kernel_rfl
    case zho => rfl
    case zhm => kernel_rfl
    case zhk => kernel_rfl
    case zhx => kernel_rfl
  refine ⟨fun W hW _ => by go_simp; first | exact ⟨.of_ext (Ext.refl _), rfl⟩ | exact .of_ext (Ext.refl _), ?_⟩
  case _ =>
    intro w5 hW hF
    have hE5 : Ext w w5 := by
      have h1 := hE4.out
      refine ⟨hW.os.trans h1.os, hW.tape.trans h1.tape, hW.output.trans h1.output, Nat.le_trans h1.size hW.size, fun k hk => ?_⟩
      rw [hW.block k (Nat.lt_of_lt_of_le hk h1.size) (by omega)]
      exact h1.block k hk
    replace hE5 := mkHid hE5
    clear HL HS hF hW
    go_simp
    go_wp2_with fail
    rw [rounds_succ]
    have tok : Tok 12 := .mk _
    go_wp2_with (first
      | ((have _t : Tok 12 := tok); clear _t; clear tok; (have tok : Tok 13 := .mk _); go_at_call 15; refine (KC2.out _ (hM.out _ hE5.out)).mono ?_; rintro e w6 ⟨rfl, hx⟩; (have hE6 := mkHid (hE5.out.trans hx)); clear hx)
      | ((have _t : Tok 13 := tok); clear _t; clear tok; (have tok : Tok 14 := .mk _); go_at_call 16; refine (KA.out _ (hM.out _ hE6.out)).mono ?_; rintro e w7 ⟨v7, rfl, hf7, hx⟩; (have hE7 := mkHid (hE6.out.trans hx)); (obtain ⟨p2, q2, rfl, -, -⟩ := hf7); clear hx;
          (obtain ⟨w8, hw8⟩ : ∃ w8, w8 = (w7.alloc (.cells #[.string ⟨#[]⟩, .int .u8 0, .bool false, .slice none 0 0, .bool false, .slice none 0 0, .bool false, .slice none 0 0, .bool false, .slice none 0 0, .int .i64 0] 56)).setRow w7.heap.size #[.string ⟨#[97]⟩, .int .u8 5, .bool p2.b1, .slice p2.a1 p2.n1 p2.c1, .bool p2.b2, .slice p2.a2 p2.n2 p2.c2, .bool q2.b1, .slice q2.a1 q2.n1 q2.c1, .bool q2.b2, .slice q2.a2 q2.n2 q2.c2, .int .i64 1] := ⟨_, rfl⟩);
          (have zn8 := heap_alloc_new w7 (.cells #[.string ⟨#[]⟩, .int .u8 0, .bool false, .slice none 0 0, .bool false, .slice none 0 0, .bool false, .slice none 0 0, .bool false, .slice none 0 0, .int .i64 0] 56));
          (have z8 := mkHid (show w8.heap[w7.heap.size]? = some (.cells #[.string ⟨#[97]⟩, .int .u8 5, .bool p2.b1, .slice p2.a1 p2.n1 p2.c1, .bool p2.b2, .slice p2.a2 p2.n2 p2.c2, .bool q2.b1, .slice q2.a1 q2.n1 q2.c1, .bool q2.b2, .slice q2.a2 q2.n2 q2.c2, .int .i64 1] 56 (0, 0)) by rw [hw8]; exact setRow_heap _ _ _ _ _ _ zn8));
          (have hx8 : Ext w7 w8 := by rw [hw8]; exact ((Ext.refl w7).al _).row (Nat.le_refl _) _);
          (have hE8 := mkHid (hE7.out.trans hx8)); replace hw8 := mkHid hw8; replace zn8 := mkHid zn8; clear hx8)
      | ((have _t : Tok 14 := tok); clear _t; clear tok; (have tok : Tok 15 := .mk _); refine wpList_store_row rfl 56 (.tmp 9) (.tmp 31) rfl w7.heap.size #[.string ⟨#[97]⟩, .int .u8 5, .bool p2.b1, .slice p2.a1 p2.n1 p2.c1, .bool p2.b2, .slice p2.a2 p2.n2 p2.c2, .bool q2.b1, .slice q2.a1 q2.n1 q2.c1, .bool q2.b2, .slice q2.a2 q2.n2 q2.c2, .int .i64 1] rfl rfl 56 _ zn8.out (by kernel_rfl) rfl (by kernel_rfl) ?_; rw [← hw8.out]; (have c0 : w8.cell? ⟨w7.heap.size, 0, none⟩ = some (.string ⟨#[97]⟩) := row16_cells z8.out 0)))
    go_ret3
    exact ⟨rfl, hE8.out⟩
end Go.Proofs.YtjelnmokcpoofaaGreatDoor
