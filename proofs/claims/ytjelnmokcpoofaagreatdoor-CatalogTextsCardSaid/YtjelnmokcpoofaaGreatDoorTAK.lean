/-
  ratio.Read: the fraction of a text, or none. The reference's catalogue: a list of parts that can be read, names rising; where a name stands. Plain law of a catalogue's text: lines and texts that are read. frac.Parse; catalog.number at a number's digits. catalog: Parse of the one text that law25's alive asks. catalog.read at a line that tells of a part. A map of parts that gets a new one by 'm[k], a, b = x, y, z', whatever it holds. catalog.Parse: whole lines that tell of parts, and what stands behind them. Plain law of a catalogue's text: a line that is read is the line of what is read; where the lines of a text end.
-/
import Derived.Test.YtjelnmokcpoofaaGreatDoorTAJ
import Derived.Test.YtjelnmokcpoofaaGreatDoorTAF
import Derived.Test.YtjelnmokcpoofaaGreatDoorTAG
import Derived.StringKeys
import Derived.WideKeyEntry
import Derived.OwnWalk
namespace Go.Proofs.YtjelnmokcpoofaaGreatDoor
set_option maxRecDepth 100000
open Go Go.RowKit Go.Proofs
def RatQ (w : World) (o : Option Rat) (e : Ending) (w' : World) : Prop :=
 ∃ (f : FV) (b : Bool), e = .returned (.tuple #[.agg #[.bool f.b1, .slice f.a1 f.n1 f.c1, .bool f.b2, .slice f.a2 f.n2 f.c2], .bool b]) ∧ Ext w w' ∧ (o = none ∧ b = false ∨ ∃ x, o = some x ∧ b = true ∧ FracO w' w.heap.size (.agg #[.bool f.b1, .slice f.a1 f.n1 f.c1, .bool f.b2, .slice f.a2 f.n2 f.c2]) x)
theorem readI_nl {s : List UInt8} {X : Int} (h : readI s = some X) : nl X ≤ s.length := by
 unfold readI at h
 split at h
 ·cases h
 ·cases hd : Lib.decFrom 0 (bodyI s) with
  | none => rw [hd] at h; cases h
  | some n =>
   rw [hd] at h
   simp only [Option.map_some, Option.some.injEq] at h
   have hn := Lib.decFrom_lt _ _ _ hd
   rw [Nat.zero_add, Nat.one_mul] at hn
   have hX : X.natAbs = n := by
    subst h
    unfold sg
    split <;> omega
   unfold nl
   rw [hX]
   have h1 : (lim n).length ≤ (bodyI s).length := lim_length_le (Nat.lt_of_lt_of_le hn (Nat.pow_le_pow_left (by decide) _))
   have h2 : (bodyI s).length ≤ s.length := by
    unfold bodyI
    split
    ·rw [List.length_tail]; omega
    ·exact nR _
   omega
theorem str_len (l : List UInt8) : (⟨l.toArray⟩ : ByteArray).size = l.length := by
 show l.toArray.size = _
 rw [List.size_toArray]
theorem list_size (s : ByteArray) : s.data.toList.length = s.size := Array.length_toList
theorem readF_miss {s : List UInt8} (h : cutL 47 s = none) : readF s = (readI s).map fun (n : Int) => (n : Rat) := by
 unfold readF
 rw [h]
theorem readF_hit {s x y : List UInt8} (h : cutL 47 s = some (x, y)) : readF s = match readI x, readI y with
  | some n, some d => if 1 < d ∧ Int.gcd n d = 1 then some (Rat.divInt n d) else none
  | _, _ => none := by
 unfold readF
 rw [h]
 rfl
set_option maxHeartbeats 3200000 in
theorem ratRead_whole (s : ByteArray) (w : World) (x y : ByteArray) (bc : Bool) (hx : x.size ≤ 65536)
  (KC : ∀ W, Ext w W → Calls Tryz.prog 15 #[.string s, .string ⟨#[47]⟩] W fun e w' => e = .returned (.tuple #[.string x, .string y, .bool bc]) ∧ Ext W w')
  (hf : bc = false ∨ readI x.data.toList = none) :
  Calls Tryz.prog 76 #[.string s] w (RatQ w ((readI x.data.toList).map fun (n : Int) => (n : Rat))) := by
 obtain ⟨w1, hw1⟩ : ∃ w1, w1 = w.alloc (.cells #[.bool false, .slice none 0 0, .bool false, .slice none 0 0] 52) := ⟨_, rfl⟩
 have hE1 := mK (show Ext w w1 by rw [hw1]; exact (xR w).al _)
 have z1 := mK (show w1.heap[w.heap.size]? = some (.cells #[.bool false, .slice none 0 0, .bool false, .slice none 0 0] 52 (0, 0)) by rw [hw1]; exact heap_alloc_new _ _)
 have hz2 := mK (show w1.heap.size = w.heap.size + 1 by rw [hw1]; simp)
 have KR := mK (fun W => read_c x W hx)
 replace KC := mK KC
 replace hw1 := mK hw1
 generalize readI x.data.toList = o at *
 clear hx
 cases bc with
 | false =>
  clear hf
  go_enter Tryz.func76, Tryz.ntmps76
  have tok : Tok 0 := .mk _
  go_wp2_with (first
   | (replace tok : Tok 1 := nxT 0 tok; go_at_call 15; rw [← hw1.out]; refine (KC.out w1 hE1.out).mono ?_; rintro e w2 ⟨rfl, hx2⟩; (have hE2 := mK (hE1.out.trans hx2)); (have z2 := mK (hx2.blk z1.out)); (have hl1 := mK hx2.size); clear hx2)
   | (replace tok : Tok 2 := nxT 1 tok; go_at_call 125; refine (KR.out w2).mono ?_; rintro e w3 ⟨v, b, X, rfl, ho, hv, hx3⟩; skip; (obtain ⟨nb, na, nn, nc, rfl⟩ := hv.r.shape); (obtain ⟨w4, hw4⟩ : ∃ w4, w4 = w3.alloc (.cells #[.bool nb, .slice na nn nc] 50) := ⟨_, rfl⟩); (have hx4 : Ext w3 w4 := by rw [hw4]; exact (xR w3).al _); (have hE4 := mK ((hE2.out.trans hx3).trans hx4)); (have z4 := mK ((hx3.trans hx4).blk z2.out)); (have hv4 := mK (hv.ext hx4)); (have hl4 := mK (nT hx3.size hx4.size)); (have hl2 := mK hE2.out.size); replace ho := mK ho; replace hw4 := mK hw4; clear hx3 hx4 hE2 z2 hE1 z1 hw1 hv)
   | (replace tok : Tok 3 := nxT 2 tok; go_at_call 126; rw [← hw4.out]; refine (whole_o _ X w2.heap.size w4 hv4.out hl4.out).mono ?_; rintro e w5 ⟨f, rfl, hx5, hf5⟩; (have z5 := mK (hx5.blk z4.out)); (have hE5 := mK ((hE4.out.trans hx5).row (nR _) #[.bool f.b1, .slice f.a1 f.n1 f.c1, .bool f.b2, .slice f.a2 f.n2 f.c2])); (have hf6 := mK (hf5.near (w' := w5.setRow w.heap.size #[.bool f.b1, .slice f.a1 f.n1 f.c1, .bool f.b2, .slice f.a2 f.n2 f.c2]) fun k hk => setRow_other _ _ _ _ (by have := (hf5.span k hk).1; have := hl1.out; have := hz2.out; omega))); clear hx5 hf5)
   | (replace tok : Tok 4 := nxT 3 tok; refine wpList_store_row rfl 52 (.tmp 2) (.tmp 29) rfl w.heap.size #[.bool f.b1, .slice f.a1 f.n1 f.c1, .bool f.b2, .slice f.a2 f.n2 f.c2] rfl rfl 52 _ z5.out (by kernel_rfl) rfl (by kernel_rfl) ?_))
  refine bodyPost_ret (results_row_tmp rfl _ _ w.heap.size 52 #[.bool f.b1, .slice f.a1 f.n1 f.c1, .bool f.b2, .slice f.a2 f.n2 f.c2] _ _ rfl rfl (setRow_heap _ _ _ _ _ _ z5.out) Tryz.underlying52 rfl (by kernel_rfl)) rfl ?_
  refine ⟨f, _, rfl, hE5.out, ?_⟩
  rcases ho.out with ⟨h1, h2⟩ | ⟨h1, h2, h3⟩
  ·exact .inr ⟨_, by rw [h1]; rfl, h2, hf6.out.mono (by have := hl2.out; omega)⟩
  ·exact .inl ⟨by rw [h1]; rfl, h2⟩
 | true =>
  obtain rfl : o = none := by
   rcases hf with h | h
   ·cases h
   ·exact h
  go_enter Tryz.func76, Tryz.ntmps76
  have tok : Tok 0 := .mk _
  go_wp2_with (first
   | (replace tok : Tok 1 := nxT 0 tok; go_at_call 15; rw [← hw1.out]; refine (KC.out w1 hE1.out).mono ?_; rintro e w2 ⟨rfl, hx2⟩; (have hE2 := mK (hE1.out.trans hx2)); (have z2 := mK (hx2.blk z1.out)); (have hl1 := mK hx2.size); clear hx2)
   | (replace tok : Tok 2 := nxT 1 tok; go_at_call 125; refine (KR.out w2).mono ?_; rintro e w3 ⟨v, b, X, rfl, ho, hv, hx3⟩; (obtain rfl : b = false := (by rcases ho with ⟨h1, h2⟩ | ⟨h1, h2, h3⟩; cases h1; exact h2)); (obtain ⟨nb, na, nn, nc, rfl⟩ := hv.r.shape); (obtain ⟨w4, hw4⟩ : ∃ w4, w4 = w3.alloc (.cells #[.bool nb, .slice na nn nc] 50) := ⟨_, rfl⟩); (have hx4 : Ext w3 w4 := by rw [hw4]; exact (xR w3).al _); (have hE4 := mK ((hE2.out.trans hx3).trans hx4)); (have z4 := mK ((hx3.trans hx4).blk z2.out)); (have hv4 := mK (hv.ext hx4)); (have hl4 := mK (nT hx3.size hx4.size)); (have hl2 := mK hE2.out.size); replace ho := mK ho; replace hw4 := mK hw4; clear hx3 hx4 hE2 z2 hE1 z1 hw1 hv)
   | (replace tok : Tok 3 := nxT 2 tok; go_at_call 126; rw [← hw4.out]; refine (whole_o _ X w2.heap.size w4 hv4.out hl4.out).mono ?_; rintro e w5 ⟨f, rfl, hx5, hf5⟩; (have z5 := mK (hx5.blk z4.out)); (have hE5 := mK ((hE4.out.trans hx5).row (nR _) #[.bool f.b1, .slice f.a1 f.n1 f.c1, .bool f.b2, .slice f.a2 f.n2 f.c2])); (have hf6 := mK (hf5.near (w' := w5.setRow w.heap.size #[.bool f.b1, .slice f.a1 f.n1 f.c1, .bool f.b2, .slice f.a2 f.n2 f.c2]) fun k hk => setRow_other _ _ _ _ (by have := (hf5.span k hk).1; have := hl1.out; have := hz2.out; omega))); clear hx5 hf5)
   | (replace tok : Tok 4 := nxT 3 tok; refine wpList_store_row rfl 52 (.tmp 2) (.tmp 29) rfl w.heap.size #[.bool f.b1, .slice f.a1 f.n1 f.c1, .bool f.b2, .slice f.a2 f.n2 f.c2] rfl rfl 52 _ z5.out (by kernel_rfl) rfl (by kernel_rfl) ?_))
  refine bodyPost_ret (results_row_tmp rfl _ _ w.heap.size 52 #[.bool f.b1, .slice f.a1 f.n1 f.c1, .bool f.b2, .slice f.a2 f.n2 f.c2] _ _ rfl rfl (setRow_heap _ _ _ _ _ _ z5.out) Tryz.underlying52 rfl (by kernel_rfl)) rfl ?_
  refine ⟨f, _, rfl, hE5.out, ?_⟩
  exact .inl ⟨rfl, rfl⟩
set_option maxHeartbeats 3200000 in
theorem ratRead_none (s : ByteArray) (w : World) (x y : ByteArray) (X : Int) (hx : x.size ≤ 65536) (hy : y.size ≤ 65536)
  (KC : ∀ W, Ext w W → Calls Tryz.prog 15 #[.string s, .string ⟨#[47]⟩] W fun e w' => e = .returned (.tuple #[.string x, .string y, .bool true]) ∧ Ext W w')
  (hX : readI x.data.toList = some X) (hY : readI y.data.toList = none) :
  Calls Tryz.prog 76 #[.string s] w (RatQ w none) := by
 obtain ⟨w1, hw1⟩ : ∃ w1, w1 = w.alloc (.cells #[.bool false, .slice none 0 0, .bool false, .slice none 0 0] 52) := ⟨_, rfl⟩
 have hE1 := mK (show Ext w w1 by rw [hw1]; exact (xR w).al _)
 have z1 := mK (show w1.heap[w.heap.size]? = some (.cells #[.bool false, .slice none 0 0, .bool false, .slice none 0 0] 52 (0, 0)) by rw [hw1]; exact heap_alloc_new _ _)
 have hz2 := mK (show w1.heap.size = w.heap.size + 1 by rw [hw1]; simp)
 have KR := mK (fun W => read_c x W hx)
 have KS := mK (fun W => read_c y W hy)
 replace KC := mK KC
 replace hw1 := mK hw1
 rw [hX] at KR
 rw [hY] at KS
 clear hX hY hx hy
 go_enter Tryz.func76, Tryz.ntmps76
 have tok : Tok 0 := .mk _
 go_wp2_with (first
  | (replace tok : Tok 1 := nxT 0 tok; go_at_call 15; rw [← hw1.out]; refine (KC.out w1 hE1.out).mono ?_; rintro e w2 ⟨rfl, hx2⟩; (have hE2 := mK (hE1.out.trans hx2)); (have z2 := mK (hx2.blk z1.out)); (have hl1 := mK hx2.size); clear hx2)
  | (replace tok : Tok 2 := nxT 1 tok; go_at_call 125; refine (KR.out w2).mono ?_; rintro e w3 ⟨v, b, X', rfl, ho, hv, hx3⟩; (obtain ⟨rfl, rfl⟩ : X = X' ∧ b = true := by (rcases ho with ⟨h1, h2⟩ | ⟨h1, h2, h3⟩; exact ⟨Option.some.inj h1, h2⟩; cases h1)); (obtain ⟨nb, na, nn, nc, rfl⟩ := hv.r.shape); (obtain ⟨w4, hw4⟩ : ∃ w4, w4 = w3.alloc (.cells #[.bool nb, .slice na nn nc] 50) := ⟨_, rfl⟩); (have hx4 : Ext w3 w4 := by rw [hw4]; exact (xR w3).al _); (have hE4 := mK ((hE2.out.trans hx3).trans hx4)); (have z4 := mK ((hx3.trans hx4).blk z2.out)); (have hv4 := mK (hv.ext hx4)); (have y4 := mK (show w4.heap[w3.heap.size]? = some (.cells #[.bool nb, .slice na nn nc] 50 (0, 0)) by rw [hw4]; exact heap_alloc_new _ _)); (have hl4 := mK (nT hx3.size hx4.size)); replace hw4 := mK hw4; clear ho hx3 hx4 hE2 z2 hE1 z1 hw1 hv)
  | (replace tok : Tok 3 := nxT 2 tok; go_at_call 125; rw [← hw4.out]; refine (KS.out w4).mono ?_; rintro e w5 ⟨v, b, Y', rfl, ho, hv, hx5⟩; (obtain rfl : b = false := (by rcases ho with ⟨h1, h2⟩ | ⟨h1, h2, h3⟩; cases h1; exact h2)); (obtain ⟨db, da, dn, dc, rfl⟩ := hv.r.shape); (obtain ⟨w7, hw7⟩ : ∃ w7, w7 = (w5.alloc (.cells #[.bool db, .slice da dn dc] 50)).alloc (.cells #[.bool nb, .slice na nn nc, .bool db, .slice da dn dc] 52) := ⟨_, rfl⟩); (have hx7 : Ext w5 w7 := by rw [hw7]; exact ((xR w5).al _).al _); (have hE7 := mK ((hE4.out.trans hx5).trans hx7)); (have z7 := mK ((hx5.trans hx7).blk z4.out)); (have hv7 := mK (hv4.out.ext (hx5.trans hx7))); (have hd7 := mK (hv.ext hx7)); (have y7 := mK ((hx5.trans hx7).blk y4.out)); (have u7 := mK (show w7.heap[w5.heap.size]? = some (.cells #[.bool db, .slice da dn dc] 50 (0, 0)) by rw [hw7]; exact (heap_alloc_old _ _ (by simp)).trans (heap_alloc_new _ _))); (have t7 := mK (show w7.heap[w5.heap.size + 1]? = some (.cells #[.bool nb, .slice na nn nc, .bool db, .slice da dn dc] 52 (0, 0)) by rw [hw7]; exact heap_at _ _ _ (by simp))); (have hl5 := mK hx5.size); (obtain ⟨e0, e1⟩ := row2_cells (hx5.blk y4.out)); (have e2 : w3.heap.size < w5.heap.size := (Array.getElem?_eq_some_iff.1 (hx5.blk y4.out)).1); replace hw7 := mK hw7; clear ho hx5 hx7 hE4 z4 hv4 hv y4))
 rw [← hw7.out]
 have hn1 := row2_cells y7.out
 have hd1 := row2_cells u7.out
 have n0 : ∀ W, Ext w7 W → W.cell? ⟨w3.heap.size, 0, none⟩ = some (.bool nb) := fun W e => e.cell hn1.1
 have n1 : ∀ W, Ext w7 W → W.cell? ⟨w3.heap.size, 1, none⟩ = some (.slice na nn nc) := fun W e => e.cell hn1.2
 have d0 : ∀ W, Ext w7 W → W.cell? ⟨w5.heap.size, 0, none⟩ = some (.bool db) := fun W e => e.cell hd1.1
 have d1 : ∀ W, Ext w7 W → W.cell? ⟨w5.heap.size, 1, none⟩ = some (.slice da dn dc) := fun W e => e.cell hd1.2
 clear hn1 hd1 e0 e1 e2 tok
 apply region_ext [.val (.bool false), .val (.bool true), .val (.bool true), .val undef, .val undef, .val undef, .val (.bool true), .val (.bool true), .val undef, .val undef, .val undef, .val undef, .val (.bool true), .val (.bool true), .val undef, .val undef, .val undef, .val undef, .val undef, .val undef, .val (.bool true)] (by kernel_rfl)
 case hst =>
  iterate 21 (refine stable_vals _ ?_)
  trivial
 refine ⟨fun W hW _ => by go_simp; first | exact ⟨xR _, rfl⟩ | exact xR _, ?_⟩
 refine ⟨fun W hW _ => by go_simp; first | exact ⟨xR _, rfl⟩ | exact xR _, ?_⟩
 refine ⟨fun W hW _ => by go_simp; first | exact ⟨xR _, rfl⟩ | exact xR _, ?_⟩
 refine ⟨fun W hW _ => by go_simp <;> (intro hh; have hh' : (none : Option Bool) = some _ := hh; cases hh'), ?_⟩
 refine ⟨fun W hW _ => by go_simp <;> (intro hh; have hh' : (none : Option Bool) = some _ := hh; cases hh'), ?_⟩
 refine ⟨fun W hW _ => by go_simp <;> (intro hh; have hh' : (none : Option Bool) = some _ := hh; cases hh'), ?_⟩
 refine ⟨fun W hW _ => by go_simp; first | exact ⟨xR _, rfl⟩ | exact xR _, ?_⟩
 refine ⟨fun W hW _ => by go_simp; first | exact ⟨xR _, rfl⟩ | exact xR _, ?_⟩
 refine ⟨fun W hW _ => by go_simp <;> (intro hh; have hh' : (none : Option Bool) = some _ := hh; cases hh'), ?_⟩
 refine ⟨fun W hW _ => by go_simp <;> (intro hh; have hh' : (none : Option Bool) = some _ := hh; cases hh'), ?_⟩
 refine ⟨fun W hW _ => by go_simp <;> (intro hh; have hh' : (none : Option Bool) = some _ := hh; cases hh'), ?_⟩
 refine ⟨fun W hW _ => by go_simp <;> (intro hh; have hh' : (none : Option Bool) = some _ := hh; cases hh'), ?_⟩
 refine ⟨fun W hW _ => by go_simp; first | exact ⟨xR _, rfl⟩ | exact xR _, ?_⟩
 refine ⟨fun W hW _ => by go_simp; first | exact ⟨xR _, rfl⟩ | exact xR _, ?_⟩
 refine ⟨fun W hW _ => by go_simp <;> (intro hh; have hh' : (none : Option Bool) = some _ := hh; cases hh'), ?_⟩
 refine ⟨fun W hW _ => by go_simp <;> (intro hh; have hh' : (none : Option Bool) = some _ := hh; cases hh'), ?_⟩
 refine ⟨fun W hW _ => by go_simp <;> (intro hh; have hh' : (none : Option Bool) = some _ := hh; cases hh'), ?_⟩
 refine ⟨fun W hW _ => by go_simp <;> (intro hh; have hh' : (none : Option Bool) = some _ := hh; cases hh'), ?_⟩
 refine ⟨fun W hW _ => by go_simp <;> (intro hh; have hh' : (none : Option Bool) = some _ := hh; cases hh'), ?_⟩
 refine ⟨fun W hW _ => by go_simp <;> (intro hh; have hh' : (none : Option Bool) = some _ := hh; cases hh'), ?_⟩
 refine ⟨fun W hW _ => by go_simp; first | exact ⟨xR _, rfl⟩ | exact xR _, ?_⟩
 intro W hW _
 have zW := hW.blk z7.out
 have hEW := mK ((hE7.out.trans hW).row (nR _) #[.bool false, .slice none 0 0, .bool false, .slice none 0 0])
 clear n0 n1 d0 d1 hW
 go_simp
 go_wp2_with (refine wpList_store_row rfl 52 (.tmp 2) (.tmp 60) rfl w.heap.size #[.bool false, .slice none 0 0, .bool false, .slice none 0 0] rfl rfl 52 _ zW (by kernel_rfl) rfl (by kernel_rfl) ?_)
 refine bodyPost_ret (results_row_tmp rfl _ _ w.heap.size 52 #[.bool false, .slice none 0 0, .bool false, .slice none 0 0] _ _ rfl rfl (setRow_heap _ _ _ _ _ _ zW) Tryz.underlying52 rfl (by kernel_rfl)) rfl ?_
 exact ⟨⟨false, none, 0, 0, false, none, 0, 0⟩, false, rfl, hEW.out, .inl ⟨rfl, rfl⟩⟩
set_option maxHeartbeats 3200000 in
theorem ratRead_low
 (s : ByteArray) (w : World) (x y : ByteArray) (X Y : Int) (hx : x.size ≤ 65536) (hy : y.size ≤ 65536)
  (KC : ∀ W, Ext w W → Calls Tryz.prog 15 #[.string s, .string ⟨#[47]⟩] W fun e w' => e = .returned (.tuple #[.string x, .string y, .bool true]) ∧ Ext W w')
  (hX : readI x.data.toList = some X) (hY : readI y.data.toList = some Y)
 (h0 : Y ≤ 0) :
  Calls Tryz.prog 76 #[.string s] w (RatQ w none) := by
 obtain ⟨w1, hw1⟩ : ∃ w1, w1 = w.alloc (.cells #[.bool false, .slice none 0 0, .bool false, .slice none 0 0] 52) := ⟨_, rfl⟩
 have hE1 := mK (show Ext w w1 by rw [hw1]; exact (xR w).al _)
 have z1 := mK (show w1.heap[w.heap.size]? = some (.cells #[.bool false, .slice none 0 0, .bool false, .slice none 0 0] 52 (0, 0)) by rw [hw1]; exact heap_alloc_new _ _)
 have hz2 := mK (show w1.heap.size = w.heap.size + 1 by rw [hw1]; simp)
 have KR := mK (fun W => read_c x W hx)
 have KS := mK (fun W => read_c y W hy)
 replace KC := mK KC
 replace hw1 := mK hw1
 have nY : nl Y ≤ 1073741824 := nT (readI_nl hY) (by rw [list_size]; omega)
 rw [hX] at KR
 rw [hY] at KS
 obtain ⟨SG, hSG⟩ : ∃ SG, SG = Y.sign := ⟨_, rfl⟩
 have hs : decide (SG ≤ 0) = true := by rw [hSG]; exact decide_eq_true (by rcases Int.lt_or_eq_of_le h0 with h | h; rw [Int.sign_eq_neg_one_of_neg h]; decide; rw [h]; decide)
 replace hSG := mK hSG
 clear hX hY hx hy h0
 go_enter Tryz.func76, Tryz.ntmps76
 have tok : Tok 0 := .mk _
 go_wp2_with (first
  | (replace tok : Tok 1 := nxT 0 tok; go_at_call 15; rw [← hw1.out]; refine (KC.out w1 hE1.out).mono ?_; rintro e w2 ⟨rfl, hx2⟩; (have hE2 := mK (hE1.out.trans hx2)); (have z2 := mK (hx2.blk z1.out)); (have hl1 := mK hx2.size); clear hx2)
  | (replace tok : Tok 2 := nxT 1 tok; go_at_call 125; refine (KR.out w2).mono ?_; rintro e w3 ⟨v, b, X', rfl, ho, hv, hx3⟩; (obtain ⟨rfl, rfl⟩ : X = X' ∧ b = true := by (rcases ho with ⟨h1, h2⟩ | ⟨h1, h2, h3⟩; exact ⟨Option.some.inj h1, h2⟩; cases h1)); (obtain ⟨nb, na, nn, nc, rfl⟩ := hv.r.shape); (obtain ⟨w4, hw4⟩ : ∃ w4, w4 = w3.alloc (.cells #[.bool nb, .slice na nn nc] 50) := ⟨_, rfl⟩); (have hx4 : Ext w3 w4 := by rw [hw4]; exact (xR w3).al _); (have hE4 := mK ((hE2.out.trans hx3).trans hx4)); (have z4 := mK ((hx3.trans hx4).blk z2.out)); (have hv4 := mK (hv.ext hx4)); (have y4 := mK (show w4.heap[w3.heap.size]? = some (.cells #[.bool nb, .slice na nn nc] 50 (0, 0)) by rw [hw4]; exact heap_alloc_new _ _)); (have hl4 := mK (nT hx3.size hx4.size)); replace hw4 := mK hw4; clear ho hx3 hx4 hE2 z2 hE1 z1 hw1 hv)
  | (replace tok : Tok 3 := nxT 2 tok; go_at_call 125; rw [← hw4.out]; refine (KS.out w4).mono ?_; rintro e w5 ⟨v, b, Y', rfl, ho, hv, hx5⟩; (obtain ⟨rfl, rfl⟩ : Y = Y' ∧ b = true := by (rcases ho with ⟨h1, h2⟩ | ⟨h1, h2, h3⟩; exact ⟨Option.some.inj h1, h2⟩; cases h1)); (obtain ⟨db, da, dn, dc, rfl⟩ := hv.r.shape); (obtain ⟨w7, hw7⟩ : ∃ w7, w7 = (w5.alloc (.cells #[.bool db, .slice da dn dc] 50)).alloc (.cells #[.bool nb, .slice na nn nc, .bool db, .slice da dn dc] 52) := ⟨_, rfl⟩); (have hx7 : Ext w5 w7 := by rw [hw7]; exact ((xR w5).al _).al _); (have hE7 := mK ((hE4.out.trans hx5).trans hx7)); (have z7 := mK ((hx5.trans hx7).blk z4.out)); (have hv7 := mK (hv4.out.ext (hx5.trans hx7))); (have hd7 := mK (hv.ext hx7)); (have y7 := mK ((hx5.trans hx7).blk y4.out)); (have u7 := mK (show w7.heap[w5.heap.size]? = some (.cells #[.bool db, .slice da dn dc] 50 (0, 0)) by rw [hw7]; exact (heap_alloc_old _ _ (by simp)).trans (heap_alloc_new _ _))); (have t7 := mK (show w7.heap[w5.heap.size + 1]? = some (.cells #[.bool nb, .slice na nn nc, .bool db, .slice da dn dc] 52 (0, 0)) by rw [hw7]; exact heap_at _ _ _ (by simp))); (have hl5 := mK hx5.size); (obtain ⟨e0, e1⟩ := row2_cells (hx5.blk y4.out)); (have e2 : w3.heap.size < w5.heap.size := (Array.getElem?_eq_some_iff.1 (hx5.blk y4.out)).1); replace hw7 := mK hw7; clear ho hx5 hx7 hE4 z4 hv4 hv y4))
 rw [← hw7.out]
 have hn1 := row2_cells y7.out
 have hd1 := row2_cells u7.out
 have n0 : ∀ W, Ext w7 W → W.cell? ⟨w3.heap.size, 0, none⟩ = some (.bool nb) := fun W e => e.cell hn1.1
 have n1 : ∀ W, Ext w7 W → W.cell? ⟨w3.heap.size, 1, none⟩ = some (.slice na nn nc) := fun W e => e.cell hn1.2
 have d0 : ∀ W, Ext w7 W → W.cell? ⟨w5.heap.size, 0, none⟩ = some (.bool db) := fun W e => e.cell hd1.1
 have d1 : ∀ W, Ext w7 W → W.cell? ⟨w5.heap.size, 1, none⟩ = some (.slice da dn dc) := fun W e => e.cell hd1.2
 clear hn1 hd1 e0 e1 e2 tok
 apply region_ext [.val (.bool true), .val (.bool false), .val (.bool false), .val (.agg #[.bool db, .slice da dn dc]), .val (.int .i64 SG), .val (.bool true), .val (.bool true), .val (.bool true), .val undef, .val undef, .val undef, .val undef, .val (.bool true), .val (.bool true), .val undef, .val undef, .val undef, .val undef, .val undef, .val undef, .val (.bool true)] (by kernel_rfl)
 case hst =>
  iterate 21 (refine stable_vals _ ?_)
  trivial
 refine ⟨fun W hW _ => by go_simp; first | exact ⟨xR _, rfl⟩ | exact xR _, ?_⟩
 refine ⟨fun W hW _ => by go_simp; first | exact ⟨xR _, rfl⟩ | exact xR _, ?_⟩
 refine ⟨fun W hW _ => by go_simp; first | exact ⟨xR _, rfl⟩ | exact xR _, ?_⟩
 refine ⟨fun W hW _ => by have := d0 W hW; have := d1 W hW; go_simp; first | exact ⟨xR _, rfl⟩ | exact xR _, ?_⟩
 refine ⟨fun W hW _ => ?g4, ?_⟩
 case g4 =>
  go_simp
  refine (sign_c _ _ W (hd7.out.ext hW).r nY).mono ?_
  rintro e w' ⟨rfl, h1⟩
  rw [← hSG.out]
  exact ⟨rfl, h1⟩
 refine ⟨fun W hW _ => by go_simp; first | exact ⟨xR _, rfl⟩ | exact xR _, ?_⟩
 refine ⟨fun W hW _ => by go_simp; first | exact ⟨xR _, rfl⟩ | exact xR _, ?_⟩
 refine ⟨fun W hW _ => by go_simp; first | exact ⟨xR _, rfl⟩ | exact xR _, ?_⟩
 refine ⟨fun W hW _ => by go_simp <;> (intro hh; have hh' : (none : Option Bool) = some _ := hh; cases hh'), ?_⟩
 refine ⟨fun W hW _ => by go_simp <;> (intro hh; have hh' : (none : Option Bool) = some _ := hh; cases hh'), ?_⟩
 refine ⟨fun W hW _ => by go_simp <;> (intro hh; have hh' : (none : Option Bool) = some _ := hh; cases hh'), ?_⟩
 refine ⟨fun W hW _ => by go_simp <;> (intro hh; have hh' : (none : Option Bool) = some _ := hh; cases hh'), ?_⟩
 refine ⟨fun W hW _ => by go_simp; first | exact ⟨xR _, rfl⟩ | exact xR _, ?_⟩
 refine ⟨fun W hW _ => by go_simp; first | exact ⟨xR _, rfl⟩ | exact xR _, ?_⟩
 refine ⟨fun W hW _ => by go_simp <;> (intro hh; have hh' : (none : Option Bool) = some _ := hh; cases hh'), ?_⟩
 refine ⟨fun W hW _ => by go_simp <;> (intro hh; have hh' : (none : Option Bool) = some _ := hh; cases hh'), ?_⟩
 refine ⟨fun W hW _ => by go_simp <;> (intro hh; have hh' : (none : Option Bool) = some _ := hh; cases hh'), ?_⟩
 refine ⟨fun W hW _ => by go_simp <;> (intro hh; have hh' : (none : Option Bool) = some _ := hh; cases hh'), ?_⟩
 refine ⟨fun W hW _ => by go_simp <;> (intro hh; have hh' : (none : Option Bool) = some _ := hh; cases hh'), ?_⟩
 refine ⟨fun W hW _ => by go_simp <;> (intro hh; have hh' : (none : Option Bool) = some _ := hh; cases hh'), ?_⟩
 refine ⟨fun W hW _ => by go_simp; first | exact ⟨xR _, rfl⟩ | exact xR _, ?_⟩
 intro W hW _
 have zW := hW.blk z7.out
 have hEW := mK ((hE7.out.trans hW).row (nR _) #[.bool false, .slice none 0 0, .bool false, .slice none 0 0])
 clear n0 n1 d0 d1 hW
 go_simp
 go_wp2_with (refine wpList_store_row rfl 52 (.tmp 2) (.tmp 60) rfl w.heap.size #[.bool false, .slice none 0 0, .bool false, .slice none 0 0] rfl rfl 52 _ zW (by kernel_rfl) rfl (by kernel_rfl) ?_)
 refine bodyPost_ret (results_row_tmp rfl _ _ w.heap.size 52 #[.bool false, .slice none 0 0, .bool false, .slice none 0 0] _ _ rfl rfl (setRow_heap _ _ _ _ _ _ zW) Tryz.underlying52 rfl (by kernel_rfl)) rfl ?_
 exact ⟨⟨false, none, 0, 0, false, none, 0, 0⟩, false, rfl, hEW.out, .inl ⟨rfl, rfl⟩⟩
set_option maxHeartbeats 3200000 in
theorem ratRead_one
 (s : ByteArray) (w : World) (x y : ByteArray) (X Y : Int) (hx : x.size ≤ 65536) (hy : y.size ≤ 65536)
  (KC : ∀ W, Ext w W → Calls Tryz.prog 15 #[.string s, .string ⟨#[47]⟩] W fun e w' => e = .returned (.tuple #[.string x, .string y, .bool true]) ∧ Ext W w')
  (hX : readI x.data.toList = some X) (hY : readI y.data.toList = some Y)
 (h0 : Y = 1) :
  Calls Tryz.prog 76 #[.string s] w (RatQ w none) := by
 obtain ⟨w1, hw1⟩ : ∃ w1, w1 = w.alloc (.cells #[.bool false, .slice none 0 0, .bool false, .slice none 0 0] 52) := ⟨_, rfl⟩
 have hE1 := mK (show Ext w w1 by rw [hw1]; exact (xR w).al _)
 have z1 := mK (show w1.heap[w.heap.size]? = some (.cells #[.bool false, .slice none 0 0, .bool false, .slice none 0 0] 52 (0, 0)) by rw [hw1]; exact heap_alloc_new _ _)
 have hz2 := mK (show w1.heap.size = w.heap.size + 1 by rw [hw1]; simp)
 have KR := mK (fun W => read_c x W hx)
 have KS := mK (fun W => read_c y W hy)
 replace KC := mK KC
 replace hw1 := mK hw1
 have nY : nl Y ≤ 1073741824 := nT (readI_nl hY) (by rw [list_size]; omega)
 rw [hX] at KR
 rw [hY] at KS
 have ho := mK (fun w => of_c 1 w (by omega) (by omega))
 have hs1 := mK (show Y.sign = 1 by rw [h0]; decide)
 have hs2 := mK (show (Y - 1).sign = 0 by rw [h0]; decide)
 clear hX hY hx hy h0
 go_enter Tryz.func76, Tryz.ntmps76
 have tok : Tok 0 := .mk _
 go_wp2_with (first
  | (replace tok : Tok 1 := nxT 0 tok; go_at_call 15; rw [← hw1.out]; refine (KC.out w1 hE1.out).mono ?_; rintro e w2 ⟨rfl, hx2⟩; (have hE2 := mK (hE1.out.trans hx2)); (have z2 := mK (hx2.blk z1.out)); (have hl1 := mK hx2.size); clear hx2)
  | (replace tok : Tok 2 := nxT 1 tok; go_at_call 125; refine (KR.out w2).mono ?_; rintro e w3 ⟨v, b, X', rfl, ho, hv, hx3⟩; (obtain ⟨rfl, rfl⟩ : X = X' ∧ b = true := by (rcases ho with ⟨h1, h2⟩ | ⟨h1, h2, h3⟩; exact ⟨Option.some.inj h1, h2⟩; cases h1)); (obtain ⟨nb, na, nn, nc, rfl⟩ := hv.r.shape); (obtain ⟨w4, hw4⟩ : ∃ w4, w4 = w3.alloc (.cells #[.bool nb, .slice na nn nc] 50) := ⟨_, rfl⟩); (have hx4 : Ext w3 w4 := by rw [hw4]; exact (xR w3).al _); (have hE4 := mK ((hE2.out.trans hx3).trans hx4)); (have z4 := mK ((hx3.trans hx4).blk z2.out)); (have hv4 := mK (hv.ext hx4)); (have y4 := mK (show w4.heap[w3.heap.size]? = some (.cells #[.bool nb, .slice na nn nc] 50 (0, 0)) by rw [hw4]; exact heap_alloc_new _ _)); (have hl4 := mK (nT hx3.size hx4.size)); replace hw4 := mK hw4; clear ho hx3 hx4 hE2 z2 hE1 z1 hw1 hv)
  | (replace tok : Tok 3 := nxT 2 tok; go_at_call 125; rw [← hw4.out]; refine (KS.out w4).mono ?_; rintro e w5 ⟨v, b, Y', rfl, ho, hv, hx5⟩; (obtain ⟨rfl, rfl⟩ : Y = Y' ∧ b = true := by (rcases ho with ⟨h1, h2⟩ | ⟨h1, h2, h3⟩; exact ⟨Option.some.inj h1, h2⟩; cases h1)); (obtain ⟨db, da, dn, dc, rfl⟩ := hv.r.shape); (obtain ⟨w7, hw7⟩ : ∃ w7, w7 = (w5.alloc (.cells #[.bool db, .slice da dn dc] 50)).alloc (.cells #[.bool nb, .slice na nn nc, .bool db, .slice da dn dc] 52) := ⟨_, rfl⟩); (have hx7 : Ext w5 w7 := by rw [hw7]; exact ((xR w5).al _).al _); (have hE7 := mK ((hE4.out.trans hx5).trans hx7)); (have z7 := mK ((hx5.trans hx7).blk z4.out)); (have hv7 := mK (hv4.out.ext (hx5.trans hx7))); (have hd7 := mK (hv.ext hx7)); (have y7 := mK ((hx5.trans hx7).blk y4.out)); (have u7 := mK (show w7.heap[w5.heap.size]? = some (.cells #[.bool db, .slice da dn dc] 50 (0, 0)) by rw [hw7]; exact (heap_alloc_old _ _ (by simp)).trans (heap_alloc_new _ _))); (have t7 := mK (show w7.heap[w5.heap.size + 1]? = some (.cells #[.bool nb, .slice na nn nc, .bool db, .slice da dn dc] 52 (0, 0)) by rw [hw7]; exact heap_at _ _ _ (by simp))); (have hl5 := mK hx5.size); (obtain ⟨e0, e1⟩ := row2_cells (hx5.blk y4.out)); (have e2 : w3.heap.size < w5.heap.size := (Array.getElem?_eq_some_iff.1 (hx5.blk y4.out)).1); replace hw7 := mK hw7; clear ho hx5 hx7 hE4 z4 hv4 hv y4))
 rw [← hw7.out]
 have hn1 := row2_cells y7.out
 have hd1 := row2_cells u7.out
 have n0 : ∀ W, Ext w7 W → W.cell? ⟨w3.heap.size, 0, none⟩ = some (.bool nb) := fun W e => e.cell hn1.1
 have n1 : ∀ W, Ext w7 W → W.cell? ⟨w3.heap.size, 1, none⟩ = some (.slice na nn nc) := fun W e => e.cell hn1.2
 have d0 : ∀ W, Ext w7 W → W.cell? ⟨w5.heap.size, 0, none⟩ = some (.bool db) := fun W e => e.cell hd1.1
 have d1 : ∀ W, Ext w7 W → W.cell? ⟨w5.heap.size, 1, none⟩ = some (.slice da dn dc) := fun W e => e.cell hd1.2
 clear hn1 hd1 e0 e1 e2 tok
 apply region_ext [.val (.bool true), .val (.bool false), .val (.bool false), .val (.agg #[.bool db, .slice da dn dc]), .val (.int .i64 1), .val (.bool false), .val (.bool false), .val (.bool false), .val (.agg #[.bool db, .slice da dn dc]), .pred (fun W v => IntO W 0 v 1), .val (.int .i64 0), .val (.bool true), .val (.bool true), .val (.bool true), .val undef, .val undef, .val undef, .val undef, .val undef, .val undef, .val (.bool true)] (by kernel_rfl)
 case hst =>
  iterate 9 (refine stable_vals _ ?_)
  refine st_intO _ _ ?_
  iterate 11 (refine stable_vals _ ?_)
  trivial
 refine ⟨fun W hW _ => by go_simp; first | exact ⟨xR _, rfl⟩ | exact xR _, ?_⟩
 refine ⟨fun W hW _ => by go_simp; first | exact ⟨xR _, rfl⟩ | exact xR _, ?_⟩
 refine ⟨fun W hW _ => by go_simp; first | exact ⟨xR _, rfl⟩ | exact xR _, ?_⟩
 refine ⟨fun W hW _ => by have := d0 W hW; have := d1 W hW; go_simp; first | exact ⟨xR _, rfl⟩ | exact xR _, ?_⟩
 refine ⟨fun W hW _ => ?g4, ?_⟩
 case g4 =>
  go_simp
  refine (sign_c _ _ W (hd7.out.ext hW).r nY).mono ?_
  rintro e w' ⟨rfl, h1⟩
  rw [hs1.out]
  exact ⟨rfl, h1⟩
 refine ⟨fun W hW _ => by go_simp; first | exact ⟨xR _, rfl⟩ | exact xR _, ?_⟩
 refine ⟨fun W hW _ => by go_simp; first | exact ⟨xR _, rfl⟩ | exact xR _, ?_⟩
 refine ⟨fun W hW _ => by go_simp; first | exact ⟨xR _, rfl⟩ | exact xR _, ?_⟩
 refine ⟨fun W hW _ => by have := d0 W hW; have := d1 W hW; go_simp; first | exact ⟨xR _, rfl⟩ | exact xR _, ?_⟩
 refine ⟨fun W hW hF => ?g9, fun v9 => ?_⟩
 case g9 =>
  clear hF
  go_simp
  refine (ho.out W).mono ?_
  rintro e w' ⟨v, rfl, h1, h2⟩
  exact ⟨v, rfl, h1, h2.mono (Nat.zero_le _)⟩
 refine ⟨fun W hW hF => ?g10, ?_⟩
 case g10 =>
  have q9 : IntO W 0 v9 1 := hF.1 (by kernel_rfl)
  replace q9 := mK q9
  clear hF
  go_simp
  refine (cmp_c _ _ Y 1 W nY nl_one (hd7.out.ext hW).r q9.out.r).mono ?_
  rintro e w' ⟨rfl, h1⟩
  rw [hs2.out]
  exact ⟨rfl, h1⟩
 refine ⟨fun W hW _ => by go_simp; first | exact ⟨xR _, rfl⟩ | exact xR _, ?_⟩
 refine ⟨fun W hW _ => by go_simp; first | exact ⟨xR _, rfl⟩ | exact xR _, ?_⟩
 refine ⟨fun W hW _ => by go_simp; first | exact ⟨xR _, rfl⟩ | exact xR _, ?_⟩
 refine ⟨fun W hW _ => by go_simp <;> (intro hh; have hh' : (none : Option Bool) = some _ := hh; cases hh'), ?_⟩
 refine ⟨fun W hW _ => by go_simp <;> (intro hh; have hh' : (none : Option Bool) = some _ := hh; cases hh'), ?_⟩
 refine ⟨fun W hW _ => by go_simp <;> (intro hh; have hh' : (none : Option Bool) = some _ := hh; cases hh'), ?_⟩
 refine ⟨fun W hW _ => by go_simp <;> (intro hh; have hh' : (none : Option Bool) = some _ := hh; cases hh'), ?_⟩
 refine ⟨fun W hW _ => by go_simp <;> (intro hh; have hh' : (none : Option Bool) = some _ := hh; cases hh'), ?_⟩
 refine ⟨fun W hW _ => by go_simp <;> (intro hh; have hh' : (none : Option Bool) = some _ := hh; cases hh'), ?_⟩
 refine ⟨fun W hW _ => by go_simp; first | exact ⟨xR _, rfl⟩ | exact xR _, ?_⟩
 intro W hW _
 have zW := hW.blk z7.out
 have hEW := mK ((hE7.out.trans hW).row (nR _) #[.bool false, .slice none 0 0, .bool false, .slice none 0 0])
 clear n0 n1 d0 d1 hW
 go_simp
 go_wp2_with (refine wpList_store_row rfl 52 (.tmp 2) (.tmp 60) rfl w.heap.size #[.bool false, .slice none 0 0, .bool false, .slice none 0 0] rfl rfl 52 _ zW (by kernel_rfl) rfl (by kernel_rfl) ?_)
 refine bodyPost_ret (results_row_tmp rfl _ _ w.heap.size 52 #[.bool false, .slice none 0 0, .bool false, .slice none 0 0] _ _ rfl rfl (setRow_heap _ _ _ _ _ _ zW) Tryz.underlying52 rfl (by kernel_rfl)) rfl ?_
 exact ⟨⟨false, none, 0, 0, false, none, 0, 0⟩, false, rfl, hEW.out, .inl ⟨rfl, rfl⟩⟩
set_option maxHeartbeats 6400000 in
theorem ratRead_gcd
 (s : ByteArray) (w : World) (x y : ByteArray) (X Y : Int) (hx : x.size ≤ 65536) (hy : y.size ≤ 65536)
  (KC : ∀ W, Ext w W → Calls Tryz.prog 15 #[.string s, .string ⟨#[47]⟩] W fun e w' => e = .returned (.tuple #[.string x, .string y, .bool true]) ∧ Ext W w')
  (hX : readI x.data.toList = some X) (hY : readI y.data.toList = some Y)
 (h0 : 1 < Y) :
  Calls Tryz.prog 76 #[.string s] w (RatQ w (if Int.gcd X Y = 1 then some (Rat.divInt X Y) else none)) := by
 obtain ⟨w1, hw1⟩ : ∃ w1, w1 = w.alloc (.cells #[.bool false, .slice none 0 0, .bool false, .slice none 0 0] 52) := ⟨_, rfl⟩
 have hE1 := mK (show Ext w w1 by rw [hw1]; exact (xR w).al _)
 have z1 := mK (show w1.heap[w.heap.size]? = some (.cells #[.bool false, .slice none 0 0, .bool false, .slice none 0 0] 52 (0, 0)) by rw [hw1]; exact heap_alloc_new _ _)
 have hz2 := mK (show w1.heap.size = w.heap.size + 1 by rw [hw1]; simp)
 have KR := mK (fun W => read_c x W hx)
 have KS := mK (fun W => read_c y W hy)
 replace KC := mK KC
 replace hw1 := mK hw1
 have nX : nl X ≤ 1073741824 := nT (readI_nl hX) (by rw [list_size]; omega)
 have nY : nl Y ≤ 1073741824 := nT (readI_nl hY) (by rw [list_size]; omega)
 rw [hX] at KR
 rw [hY] at KS
 obtain ⟨G, hG⟩ : ∃ G, G = Int.gcd X Y := ⟨_, rfl⟩
 obtain ⟨SG, hSG⟩ : ∃ SG, SG = ((G : Int) - 1).sign := ⟨_, rfl⟩
 have ho := mK (fun w => of_c 1 w (by omega) (by omega))
 have hs1 := mK (show Y.sign = 1 from Int.sign_eq_one_of_pos (by omega))
 have hs2 := mK (show (Y - 1).sign = 1 from Int.sign_eq_one_of_pos (by omega))
 have nG : nl (G : Int) ≤ 1073741824 := by
  refine nT ?_ nY
  unfold nl
  rw [Int.natAbs_natCast]
  refine lim_mono ?_
  rw [hG]
  exact Nat.le_of_dvd (by omega) (Int.gcd_dvd_natAbs_right X Y)
 have hz : (SG != 0) = decide (G ≠ 1) := by
  rw [Bool.eq_iff_iff, bne_iff_ne, decide_eq_true_eq, hSG]
  refine not_congr ?_
  rw [Int.sign_eq_zero_iff_zero]
  omega
 have hrat := mK (fun (h : G = 1) => rat_parts (n := X) (d := Y) (by omega) (by rw [← hG]; exact h))
 rw [← hG]
 obtain ⟨O, hO⟩ : ∃ O : Option Rat, O = if G = 1 then some (Rat.divInt X Y) else none := ⟨_, rfl⟩
 rw [← hO]
 replace hO := mK hO
 replace hG := mK hG
 replace hSG := mK hSG
 replace hz := mK hz
 clear hX hY hx hy h0
 go_enter Tryz.func76, Tryz.ntmps76
 have tok : Tok 0 := .mk _
 go_wp2_with (first
  | (replace tok : Tok 1 := nxT 0 tok; go_at_call 15; rw [← hw1.out]; refine (KC.out w1 hE1.out).mono ?_; rintro e w2 ⟨rfl, hx2⟩; (have hE2 := mK (hE1.out.trans hx2)); (have z2 := mK (hx2.blk z1.out)); (have hl1 := mK hx2.size); clear hx2)
  | (replace tok : Tok 2 := nxT 1 tok; go_at_call 125; refine (KR.out w2).mono ?_; rintro e w3 ⟨v, b, X', rfl, ho, hv, hx3⟩; (obtain ⟨rfl, rfl⟩ : X = X' ∧ b = true := by (rcases ho with ⟨h1, h2⟩ | ⟨h1, h2, h3⟩; exact ⟨Option.some.inj h1, h2⟩; cases h1)); (obtain ⟨nb, na, nn, nc, rfl⟩ := hv.r.shape); (obtain ⟨w4, hw4⟩ : ∃ w4, w4 = w3.alloc (.cells #[.bool nb, .slice na nn nc] 50) := ⟨_, rfl⟩); (have hx4 : Ext w3 w4 := by rw [hw4]; exact (xR w3).al _); (have hE4 := mK ((hE2.out.trans hx3).trans hx4)); (have z4 := mK ((hx3.trans hx4).blk z2.out)); (have hv4 := mK (hv.ext hx4)); (have y4 := mK (show w4.heap[w3.heap.size]? = some (.cells #[.bool nb, .slice na nn nc] 50 (0, 0)) by rw [hw4]; exact heap_alloc_new _ _)); (have hl4 := mK (nT hx3.size hx4.size)); replace hw4 := mK hw4; clear ho hx3 hx4 hE2 z2 hE1 z1 hw1 hv)
  | (replace tok : Tok 3 := nxT 2 tok; go_at_call 125; rw [← hw4.out]; refine (KS.out w4).mono ?_; rintro e w5 ⟨v, b, Y', rfl, ho, hv, hx5⟩; (obtain ⟨rfl, rfl⟩ : Y = Y' ∧ b = true := by (rcases ho with ⟨h1, h2⟩ | ⟨h1, h2, h3⟩; exact ⟨Option.some.inj h1, h2⟩; cases h1)); (obtain ⟨db, da, dn, dc, rfl⟩ := hv.r.shape); (obtain ⟨w7, hw7⟩ : ∃ w7, w7 = (w5.alloc (.cells #[.bool db, .slice da dn dc] 50)).alloc (.cells #[.bool nb, .slice na nn nc, .bool db, .slice da dn dc] 52) := ⟨_, rfl⟩); (have hx7 : Ext w5 w7 := by rw [hw7]; exact ((xR w5).al _).al _); (have hE7 := mK ((hE4.out.trans hx5).trans hx7)); (have z7 := mK ((hx5.trans hx7).blk z4.out)); (have hv7 := mK (hv4.out.ext (hx5.trans hx7))); (have hd7 := mK (hv.ext hx7)); (have y7 := mK ((hx5.trans hx7).blk y4.out)); (have u7 := mK (show w7.heap[w5.heap.size]? = some (.cells #[.bool db, .slice da dn dc] 50 (0, 0)) by rw [hw7]; exact (heap_alloc_old _ _ (by simp)).trans (heap_alloc_new _ _))); (have t7 := mK (show w7.heap[w5.heap.size + 1]? = some (.cells #[.bool nb, .slice na nn nc, .bool db, .slice da dn dc] 52 (0, 0)) by rw [hw7]; exact heap_at _ _ _ (by simp))); (have hl5 := mK hx5.size); (obtain ⟨e0, e1⟩ := row2_cells (hx5.blk y4.out)); (have e2 : w3.heap.size < w5.heap.size := (Array.getElem?_eq_some_iff.1 (hx5.blk y4.out)).1); replace hw7 := mK hw7; clear ho hx5 hx7 hE4 z4 hv4 hv y4))
 rw [← hw7.out]
 have hn1 := row2_cells y7.out
 have hd1 := row2_cells u7.out
 have n0 : ∀ W, Ext w7 W → W.cell? ⟨w3.heap.size, 0, none⟩ = some (.bool nb) := fun W e => e.cell hn1.1
 have n1 : ∀ W, Ext w7 W → W.cell? ⟨w3.heap.size, 1, none⟩ = some (.slice na nn nc) := fun W e => e.cell hn1.2
 have d0 : ∀ W, Ext w7 W → W.cell? ⟨w5.heap.size, 0, none⟩ = some (.bool db) := fun W e => e.cell hd1.1
 have d1 : ∀ W, Ext w7 W → W.cell? ⟨w5.heap.size, 1, none⟩ = some (.slice da dn dc) := fun W e => e.cell hd1.2
 clear hn1 hd1 e0 e1 e2 tok
 apply region_ext [.val (.bool true), .val (.bool false), .val (.bool false), .val (.agg #[.bool db, .slice da dn dc]), .val (.int .i64 1), .val (.bool false), .val (.bool false), .val (.bool false), .val (.agg #[.bool db, .slice da dn dc]), .pred (fun W v => IntO W 0 v 1), .val (.int .i64 1), .val (.bool false), .val (.bool false), .val (.bool false), .val (.agg #[.bool nb, .slice na nn nc]), .val (.agg #[.bool db, .slice da dn dc]), .pred (fun W v => IntO W 0 v (G : Int)), .pred (fun W v => IntO W 0 v 1), .val (.int .i64 SG), .val (.bool (SG != 0)), .val (.bool (SG != 0))] (by kernel_rfl)
 case hst =>
  iterate 9 (refine stable_vals _ ?_)
  refine st_intO _ _ ?_
  iterate 6 (refine stable_vals _ ?_)
  refine st_intO _ _ ?_
  refine st_intO _ _ ?_
  iterate 3 (refine stable_vals _ ?_)
  trivial
 refine ⟨fun W hW _ => by go_simp; first | exact ⟨xR _, rfl⟩ | exact xR _, ?_⟩
 refine ⟨fun W hW _ => by go_simp; first | exact ⟨xR _, rfl⟩ | exact xR _, ?_⟩
 refine ⟨fun W hW _ => by go_simp; first | exact ⟨xR _, rfl⟩ | exact xR _, ?_⟩
 refine ⟨fun W hW _ => by have := d0 W hW; have := d1 W hW; go_simp; first | exact ⟨xR _, rfl⟩ | exact xR _, ?_⟩
 refine ⟨fun W hW _ => ?g4, ?_⟩
 case g4 =>
  go_simp
  refine (sign_c _ _ W (hd7.out.ext hW).r nY).mono ?_
  rintro e w' ⟨rfl, h1⟩
  rw [hs1.out]
  exact ⟨rfl, h1⟩
 refine ⟨fun W hW _ => by go_simp; first | exact ⟨xR _, rfl⟩ | exact xR _, ?_⟩
 refine ⟨fun W hW _ => by go_simp; first | exact ⟨xR _, rfl⟩ | exact xR _, ?_⟩
 refine ⟨fun W hW _ => by go_simp; first | exact ⟨xR _, rfl⟩ | exact xR _, ?_⟩
 refine ⟨fun W hW _ => by have := d0 W hW; have := d1 W hW; go_simp; first | exact ⟨xR _, rfl⟩ | exact xR _, ?_⟩
 refine ⟨fun W hW hF => ?g9, fun v9 => ?_⟩
 case g9 =>
  clear hF
  go_simp
  refine (ho.out W).mono ?_
  rintro e w' ⟨v, rfl, h1, h2⟩
  exact ⟨v, rfl, h1, h2.mono (Nat.zero_le _)⟩
 refine ⟨fun W hW hF => ?g10, ?_⟩
 case g10 =>
  have q9 : IntO W 0 v9 1 := hF.1 (by kernel_rfl)
  replace q9 := mK q9
  clear hF
  go_simp
  refine (cmp_c _ _ Y 1 W nY nl_one (hd7.out.ext hW).r q9.out.r).mono ?_
  rintro e w' ⟨rfl, h1⟩
  rw [hs2.out]
  exact ⟨rfl, h1⟩
 refine ⟨fun W hW _ => by go_simp; first | exact ⟨xR _, rfl⟩ | exact xR _, ?_⟩
 refine ⟨fun W hW _ => by go_simp; first | exact ⟨xR _, rfl⟩ | exact xR _, ?_⟩
 refine ⟨fun W hW _ => by go_simp; first | exact ⟨xR _, rfl⟩ | exact xR _, ?_⟩
 refine ⟨fun W hW _ => by have := n0 W hW; have := n1 W hW; go_simp; first | exact ⟨xR _, rfl⟩ | exact xR _, ?_⟩
 refine ⟨fun W hW _ => by have := d0 W hW; have := d1 W hW; go_simp; first | exact ⟨xR _, rfl⟩ | exact xR _, ?_⟩
 refine ⟨fun W hW hF => ?g16, fun v16 => ?_⟩
 case g16 =>
  clear hF
  go_simp
  refine (common_c _ _ X Y W nX nY (hv7.out.ext hW).r (hd7.out.ext hW).r).mono ?_
  rintro e w' ⟨v, rfl, h1, h2⟩
  rw [← hG.out] at h2
  exact ⟨v, rfl, h1, h2.mono (Nat.zero_le _)⟩
 refine ⟨fun W hW hF => ?g17, fun v17 => ?_⟩
 case g17 =>
  clear hF
  go_simp
  refine (ho.out W).mono ?_
  rintro e w' ⟨v, rfl, h1, h2⟩
  exact ⟨v, rfl, h1, h2.mono (Nat.zero_le _)⟩
 refine ⟨fun W hW hF => ?g18, ?_⟩
 case g18 =>
  have q17 : IntO W 0 v17 1 := hF.1 (by kernel_rfl)
  have q16 : IntO W 0 v16 (G : Int) := hF.2.1 (by kernel_rfl)
  replace q17 := mK q17
  replace q16 := mK q16
  clear hF
  go_simp
  refine (cmp_c _ _ (G : Int) 1 W nG nl_one q16.out.r q17.out.r).mono ?_
  rintro e w' ⟨rfl, h1⟩
  rw [← hSG.out]
  exact ⟨rfl, h1⟩
 refine ⟨fun W hW _ => by go_simp; first | exact ⟨xR _, rfl⟩ | exact xR _, ?_⟩
 refine ⟨fun W hW _ => by go_simp; first | exact ⟨xR _, rfl⟩ | exact xR _, ?_⟩
 intro W hW _
 rw [hz.out]
 by_cases hg : G = 1
 ·have hO1 := hO.out
  rw [if_pos hg] at hO1
  replace hO1 := mK hO1
  rw [decide_eq_false (by simpa using hg)]
  obtain ⟨r1, r2⟩ := hrat.out hg
  have HN : IntO W w2.heap.size (.agg #[.bool nb, .slice na nn nc]) X := hv7.out.ext hW
  have HD : IntO W w2.heap.size (.agg #[.bool db, .slice da dn dc]) Y := (hd7.out.ext hW).mono hl4.out
  have R : FracO W w2.heap.size (.agg #[.bool nb, .slice na nn nc, .bool db, .slice da dn dc]) (Rat.divInt X Y) := ⟨_, _, _, _, _, _, _, _, rfl, by rw [r1]; exact HN, by rw [r2]; exact HD⟩
  have FR := mK ((R.row (g := w.heap.size) (by have := hl1.out; have := hz2.out; omega) #[.bool nb, .slice na nn nc, .bool db, .slice da dn dc]).mono (show w.heap.size ≤ w2.heap.size by have := hl1.out; have := hz2.out; omega))
  have hEW := mK ((hE7.out.trans hW).row (nR _) #[.bool nb, .slice na nn nc, .bool db, .slice da dn dc])
  have zW := mK (hW.blk z7.out)
  have tW := mK (hW.blk t7.out)
  clear n0 n1 d0 d1 hW hg HN HD R r1 r2
  go_simp
  have tok : Tok 30 := .mk _
  go_wp2_with (first
   | (replace tok : Tok 31 := nxT 30 tok; refine wpList_load_row (by rfl) 52 (.tmp 10) rfl (w5.heap.size + 1) rfl 52 #[.bool nb, .slice na nn nc, .bool db, .slice da dn dc] (0, 0) _ tW.out Tryz.underlying52 rfl (by kernel_rfl) ?_)
   | (replace tok : Tok 32 := nxT 31 tok; refine wpList_store_row rfl 52 (.tmp 2) (.tmp 61) rfl w.heap.size #[.bool nb, .slice na nn nc, .bool db, .slice da dn dc] rfl rfl 52 _ zW.out (by kernel_rfl) rfl (by kernel_rfl) ?_))
  refine bodyPost_ret (results_row_tmp rfl _ _ w.heap.size 52 #[.bool nb, .slice na nn nc, .bool db, .slice da dn dc] _ _ rfl rfl (setRow_heap _ _ _ _ _ _ zW.out) Tryz.underlying52 rfl (by kernel_rfl)) rfl ?_
  exact ⟨⟨nb, na, nn, nc, db, da, dn, dc⟩, true, rfl, hEW.out, .inr ⟨_, hO1.out, rfl, FR.out⟩⟩
 ·have hO1 := hO.out
  rw [if_neg hg] at hO1
  subst hO1
  clear hO
  rw [decide_eq_true hg]
  revert W
  intro W hW _
  have zW := hW.blk z7.out
  have hEW := mK ((hE7.out.trans hW).row (nR _) #[.bool false, .slice none 0 0, .bool false, .slice none 0 0])
  clear n0 n1 d0 d1 hW
  go_simp
  go_wp2_with (refine wpList_store_row rfl 52 (.tmp 2) (.tmp 60) rfl w.heap.size #[.bool false, .slice none 0 0, .bool false, .slice none 0 0] rfl rfl 52 _ zW (by kernel_rfl) rfl (by kernel_rfl) ?_)
  refine bodyPost_ret (results_row_tmp rfl _ _ w.heap.size 52 #[.bool false, .slice none 0 0, .bool false, .slice none 0 0] _ _ rfl rfl (setRow_heap _ _ _ _ _ _ zW) Tryz.underlying52 rfl (by kernel_rfl)) rfl ?_
  exact ⟨⟨false, none, 0, 0, false, none, 0, 0⟩, false, rfl, hEW.out, .inl ⟨rfl, rfl⟩⟩
theorem ratRead_c (s : ByteArray) (w : World) (hs : s.size ≤ 65536) (hm : Max0 w) : Calls Tryz.prog 76 #[.string s] w (RatQ w (readF s.data.toList)) := by
 cases hc : cutL 47 s.data.toList with
 | none =>
  rw [readF_miss hc]
  exact ratRead_whole s w s ⟨#[]⟩ false hs (fun W e => cut_miss 47 s W (by omega) (hm.ext e) hc) (.inl rfl)
 | some p =>
  obtain ⟨x, y⟩ := p
  have hl := congrArg List.length (cutL_some hc).1
  rw [list_size, List.length_append, List.length_cons] at hl
  have KC : ∀ W, Ext w W → Calls Tryz.prog 15 #[.string s, .string ⟨#[47]⟩] W fun e w' => e = .returned (.tuple #[.string ⟨x.toArray⟩, .string ⟨y.toArray⟩, .bool true]) ∧ Ext W w' := fun W e => cut_hit 47 s W (by omega) (hm.ext e) hc
  rw [readF_hit hc]
  have hx : (⟨x.toArray⟩ : ByteArray).size ≤ 65536 := by rw [str_len]; omega
  have hy : (⟨y.toArray⟩ : ByteArray).size ≤ 65536 := by rw [str_len]; omega
  cases hX : readI x with
  | none =>
   have := ratRead_whole s w ⟨x.toArray⟩ ⟨y.toArray⟩ true hx KC (.inr hX)
   rw [show (⟨x.toArray⟩ : ByteArray).data.toList = x from rfl, hX] at this
   exact this
  | some X =>
   cases hY : readI y with
   | none => exact ratRead_none s w _ _ X hx hy KC hX hY
   | some Y =>
    rcases Int.lt_trichotomy 1 Y with h | h | h
    ·have := ratRead_gcd s w _ _ X Y hx hy KC hX hY h
     simp only [h, true_and]
     exact this
    ·rw [show (match some X, some Y with | some n, some d => if 1 < d ∧ Int.gcd n d = 1 then some (Rat.divInt n d) else none | _, _ => none) = (none : Option Rat) from if_neg (by omega)]
     exact ratRead_one s w _ _ X Y hx hy KC hX hY h.symm
    ·rw [show (match some X, some Y with | some n, some d => if 1 < d ∧ Int.gcd n d = 1 then some (Rat.divInt n d) else none | _, _ => none) = (none : Option Rat) from if_neg (by omega)]
     exact ratRead_low s w _ _ X Y hx hy KC hX hY (by omega)
theorem less_bef : ∀ (a b : List UInt8), Op.bytesLess a b = bytesBefore a b
 | [], [] => rfl
 | [], _ :: _ => rfl
 | _ :: _, [] => rfl
 | a :: x, b :: y => by
  show (decide (a < b) || (a == b && Op.bytesLess x y)) = (decide (a < b) || (a == b && bytesBefore x y))
  rw [less_bef x y]
end Go.Proofs.YtjelnmokcpoofaaGreatDoor
namespace Go.Proofs.YtjelnmokcpoofaaGreatDoor
set_option maxRecDepth 100000
open Go Go.RowKit Go.Proofs Go.Lib
def kindL (w : List UInt8) : Option Int :=
 if w = wordB 1 then some 1 else if w = wordB 2 then some 2 else if w = wordB 3 then some 3 else if w = wordB 4 then some 4 else if w = wordB 5 then some 5 else none
def numB (s : List UInt8) : Option Int :=
 match atoi s with
 | some n => if s.length ≤ 10 ∧ itoa n = s ∧ 0 ≤ n then some n else none
 | none => none
def fracL (b : Bool) (s : List UInt8) : Except Int Rat :=
 if b = true then match readF s with
  | none => .error 5
  | some x => if nf x ≤ 2048 then .ok x else .error 4
 else .ok 0
def readL (t : List UInt8) : Except Int PD :=
 match (if 2 < (wordsL 32 t).length then kindL ((wordsL 32 t).getD 2 []) else none) with
 | none => .error 5
 | some k =>
  if (wordsL 32 t).length = 3 + wordN k then
   match numB ((wordsL 32 t).getD 1 []) with
   | none => .error 5
   | some n =>
    if nameB ((wordsL 32 t).getD 0 []) = true then
     match fracL (decide (0 < wordN k)) ((wordsL 32 t).getD 3 []) with
     | .error c => .error c
     | .ok p => match fracL (decide (1 < wordN k)) ((wordsL 32 t).getD 4 []) with
      | .error c => .error c
      | .ok q => if mayP k n (some p) (some q) = true then .ok ⟨⟨((wordsL 32 t).getD 0 []).toArray⟩, k, p, q, n⟩ else .error 1
    else .error 9
  else .error 5
def nmL (d : PD) : List UInt8 := d.nm.data.toList
def lastN (acc : List PD) : List UInt8 := (acc.getLast?.map nmL).getD []
def parseL : Nat → List PD → List UInt8 → Except (Nat × Int) (List PD)
 | 0, acc, _ => .ok acc
 | f + 1, acc, s =>
  if s = [] then .ok acc else
  match cutL 10 s with
  | none => .error (acc.length, 5)
  | some p => match readL p.1 with
   | .error c => .error (acc.length, c)
   | .ok d =>
    if bytesBefore (lastN acc) (nmL d) = true then
     if acc.length < 64 then parseL f (acc ++ [d]) p.2 else .error (acc.length, 12)
    else .error (acc.length, 5)
def parseT (s : List UInt8) : Except (Nat × Int) (List PD) := parseL (s.length + 1) [] s
def lineT (d : PD) : List UInt8 := headB d ++ tailB (fracsB d)
theorem lineB_T (d : PD) : lineB d = lineT d ++ [10] := rfl
theorem nameC_free {c : UInt8} (h : nameC c = false) {l : List UInt8} (hl : nameB l = true) : c ∉ l := by
 intro hc
 unfold nameB at hl
 simp only [Bool.and_eq_true, List.all_eq_true] at hl
 rw [hl.2.2.2.2 c hc] at h
 cases h
theorem ratText_free {x : Rat} {c : UInt8} (h1 : c ≠ 45) (h2 : digitVal c = none) (h3 : c ≠ 47) : c ∉ ratText x := by
 unfold ratText
 split
 ·exact itoa_free h1 h2
 ·intro hm
  rcases List.mem_append.1 hm with h | h
  ·exact itoa_free h1 h2 h
  ·rcases List.mem_cons.1 h with h | h
   ·exact h3 h
   ·exact itoa_free h1 h2 h
theorem word_free {c : UInt8} (h : c = 32 ∨ c = 10) (kd : Int) : c ∉ wordB kd := by
 unfold wordB
 rcases h with rfl | rfl <;> (split <;> (try split) <;> (try split) <;> (try split) <;> (try split) <;> decide)
theorem words_tail : ∀ (fr : List Rat) (x : List UInt8), (32 : UInt8) ∉ x → wordsL 32 (x ++ tailB fr) = x :: fr.map ratText
 | [], x, hx => by
  rw [show tailB [] = [] from rfl, List.append_nil, wordsL_none hx]
  rfl
 | f :: fr, x, hx => by
  rw [show tailB (f :: fr) = 32 :: (ratText f ++ tailB fr) by simp [tailB], wordsL_cons hx, words_tail fr _ (ratText_free (by decide) (by decide) (by decide))]
  rfl
theorem words_line (d : PD) (h : nameB (nmL d) = true) : wordsL 32 (lineT d) = [nmL d, itoa d.co, wordB d.kd] ++ (fracsB d).map ratText := by
 have h1 : (32 : UInt8) ∉ nmL d := nameC_free (by decide) h
 have h2 : (32 : UInt8) ∉ itoa d.co := itoa_free (by decide) (by decide)
 have e : lineT d = nmL d ++ 32 :: (itoa d.co ++ 32 :: (wordB d.kd ++ tailB (fracsB d))) := by
  unfold lineT headB nmL
  simp
 rw [e, wordsL_cons h1, wordsL_cons h2, words_tail _ _ (word_free (.inl rfl) _)]
 rfl
theorem atoi_itoa {n : Int} (h : 0 ≤ n) : atoi (itoa n) = some n := by
 unfold itoa
 rw [if_neg (by omega)]
 have hd := decFrom_dec n.toNat
 have hn := dec_ne n.toNat
 have h45 := dec_head45 n.toNat
 cases hc : decDigits n.toNat with
 | nil => exact absurd hc hn
 | cons b r =>
  rw [hc] at hd h45
  have hb : (b == 45) = false := by
   cases hb : b == 45 with
   | false => rfl
   | true => exact absurd (by rw [List.head?_cons, eq_of_beq hb]) h45
  have hb2 : (b == 43) = false := by
   cases hb : b == 43 with
   | false => rfl
   | true =>
    obtain ⟨d, hd'⟩ := digit_of_decFrom _ _ _ hd 0 b rfl
    rw [eq_of_beq hb] at hd'
    cases hd'
  unfold atoi decNat
  simp only [hb, hb2, hd, List.isEmpty_cons, Bool.false_eq_true, if_false, Option.map_some, Option.some.injEq]
  omega
theorem itoa_short {n : Int} (h0 : 0 ≤ n) (h : n ≤ 1073741824) : (itoa n).length ≤ 10 := by
 unfold itoa
 rw [if_neg (by omega), decDigits_length]
 rcases Nat.lt_or_ge 10 (nDigits n.toNat) with hk | hk
 ·rcases Nat.eq_zero_or_pos n.toNat with e | e
  ·rw [e, nDigits_small (by omega)] at hk
   omega
  ·have h1 := pow_le_nDigits n.toNat e
   have h2 : 10 ^ 10 ≤ 10 ^ (nDigits n.toNat - 1) := Nat.pow_le_pow_right (by omega) (by omega)
   omega
 ·exact hk
theorem numB_itoa {n : Int} (h0 : 0 ≤ n) (h : n ≤ 1073741824) : numB (itoa n) = some n := by
 unfold numB
 rw [atoi_itoa h0]
 simp only
 rw [if_pos ⟨itoa_short h0 h, trivial, h0⟩]
theorem kindL_word {kd : Int} (h : 1 ≤ kd ∧ kd ≤ 5) : kindL (wordB kd) = some kd := by
 obtain ⟨h1, h2⟩ := h
 have : kd = 1 ∨ kd = 2 ∨ kd = 3 ∨ kd = 4 ∨ kd = 5 := by omega
 rcases this with rfl | rfl | rfl | rfl | rfl <;> decide
theorem okPD_kd {d : PD} (h : okPD d) : 1 ≤ d.kd ∧ d.kd ≤ 5 := by
 have := h.2.2.2
 unfold mayP mayO mayS at this
 simp only [Bool.and_eq_true, decide_eq_true_eq] at this
 obtain ⟨-, -, h3⟩ := this
 split at h3
 ·omega
 ·split at h3
  ·omega
  ·split at h3
   ·omega
   ·split at h3
    ·omega
    ·split at h3
     ·omega
     ·cases h3
theorem okPD_co {d : PD} (h : okPD d) : 0 ≤ d.co ∧ d.co ≤ 1073741824 := by
 have := h.2.2.2
 unfold mayP at this
 simp only [Bool.and_eq_true, decide_eq_true_eq] at this
 exact ⟨this.1, this.2.1⟩
theorem sign_zero {x : Rat} (h : (x.num.sign == 0) = true) : x = 0 := by
 have h1 := Int.sign_eq_zero_iff_zero.1 (eq_of_beq h)
 exact Rat.num_eq_zero.1 h1
theorem okPD_nought {d : PD} (h : okPD d) : (wordN d.kd < 1 → d.p = 0) ∧ (wordN d.kd < 2 → d.q = 0) := by
 have hk := okPD_kd h
 have := h.2.2.2
 unfold mayP mayO at this
 simp only [Bool.and_eq_true, decide_eq_true_eq] at this
 obtain ⟨-, -, h3⟩ := this
 have hc : d.kd = 1 ∨ d.kd = 2 ∨ d.kd = 3 ∨ d.kd = 4 ∨ d.kd = 5 := by omega
 rcases hc with e | e | e | e | e <;> rw [e] at h3 ⊢
 ·simp only [mayS, if_true, Bool.and_eq_true] at h3
  exact ⟨fun h => absurd h (by decide), fun _ => sign_zero h3.2⟩
 ·have h3 : (d.q.num.sign == 0) = true := h3
  exact ⟨fun h => absurd h (by decide), fun _ => sign_zero h3⟩
 ·exact ⟨fun h => absurd h (by decide), fun h => absurd h (by decide)⟩
 ·exact ⟨fun h => absurd h (by decide), fun h => absurd h (by decide)⟩
 ·have h3 : ((d.p.num.sign == 0) && (d.q.num.sign == 0)) = true := h3
  rw [Bool.and_eq_true] at h3
  exact ⟨fun _ => sign_zero h3.1, fun _ => sign_zero h3.2⟩
theorem fracL_text {x : Rat} (h : nf x ≤ 2048) (b : Bool) (s : List UInt8) (h1 : b = true → s = ratText x) (h0 : b = false → x = 0) : fracL b s = .ok x := by
 unfold fracL
 cases b with
 | true =>
  rw [if_pos rfl, h1 rfl, readF_text]
  simp only
  rw [if_pos h]
 | false =>
  rw [if_neg (by simp), h0 rfl]
theorem readL_line {d : PD} (h : okPD d) : readL (lineT d) = .ok d := by
 have hk := okPD_kd h
 have hw := words_line d h.2.2.1
 have hn := wordN_le d.kd
 obtain ⟨c1, c2⟩ := okPD_co h
 obtain ⟨n1, n2⟩ := okPD_nought h
 have hfl : (fracsB d).length = wordN d.kd := by
  unfold fracsB
  rw [List.length_take]
  simp
  omega
 unfold readL
 rw [hw]
 have hl : ([nmL d, itoa d.co, wordB d.kd] ++ (fracsB d).map ratText).length = 3 + wordN d.kd := by
  rw [List.length_append, List.length_map, hfl]
  rfl
 rw [hl, if_pos (by omega)]
 have e2 : ([nmL d, itoa d.co, wordB d.kd] ++ (fracsB d).map ratText).getD 2 [] = wordB d.kd := rfl
 have e1 : ([nmL d, itoa d.co, wordB d.kd] ++ (fracsB d).map ratText).getD 1 [] = itoa d.co := rfl
 have e0 : ([nmL d, itoa d.co, wordB d.kd] ++ (fracsB d).map ratText).getD 0 [] = nmL d := rfl
 rw [e2, e1, e0, kindL_word hk, numB_itoa c1 c2]
 simp only
 rw [if_pos trivial, if_pos (show nameB (nmL d) = true from h.2.2.1)]
 have p1 : fracL (decide (0 < wordN d.kd)) (([nmL d, itoa d.co, wordB d.kd] ++ (fracsB d).map ratText).getD 3 []) = .ok d.p := by
  refine fracL_text h.1 _ _ (fun e => ?_) (fun e => n1 (by have := of_decide_eq_false e; omega))
  have := of_decide_eq_true e
  unfold fracsB
  rcases (show wordN d.kd = 1 ∨ wordN d.kd = 2 by omega) with e | e <;> rw [e] <;> rfl
 have p2 : fracL (decide (1 < wordN d.kd)) (([nmL d, itoa d.co, wordB d.kd] ++ (fracsB d).map ratText).getD 4 []) = .ok d.q := by
  refine fracL_text h.2.1 _ _ (fun e => ?_) (fun e => n2 (by have := of_decide_eq_false e; omega))
  have := of_decide_eq_true e
  unfold fracsB
  rw [show wordN d.kd = 2 by omega]
  rfl
 rw [p1, p2]
 simp only
 rw [if_pos h.2.2.2]
 rfl
theorem line_free {d : PD} (h : nameB (nmL d) = true) : (10 : UInt8) ∉ lineT d := by
 have h1 : (10 : UInt8) ∉ nmL d := nameC_free (by decide) h
 have h2 : (10 : UInt8) ∉ itoa d.co := itoa_free (by decide) (by decide)
 have h3 : (10 : UInt8) ∉ wordB d.kd := word_free (.inr rfl) _
 intro hm
 unfold lineT headB tailB at hm
 simp only [List.mem_append, List.mem_cons, List.mem_flatMap] at hm
 rcases hm with (hm | hm | hm | hm | hm) | ⟨x, -, hm | hm⟩
 ·exact h1 hm
 ·cases hm
 ·exact h2 hm
 ·cases hm
 ·exact h3 hm
 ·cases hm
 ·exact ratText_free (by decide) (by decide) (by decide) hm
theorem textB_cons (d : PD) (r : List PD) : textB (d :: r) = lineT d ++ 10 :: textB r := by
 simp [textB, lineB_T]
theorem textB_app (a b : List PD) : textB (a ++ b) = textB a ++ textB b := by simp [textB]
def Ris (l : List PD) : Prop := l.Pairwise fun a b => bytesBefore (nmL a) (nmL b) = true
theorem name_pos {l : List UInt8} (h : nameB l = true) : bytesBefore [] l = true := by
 cases l with
 | nil => cases h
 | cons a r => rfl
theorem last_before {acc r : List PD} {d : PD} (h : Ris (acc ++ d :: r)) (hn : nameB (nmL d) = true) : bytesBefore (lastN acc) (nmL d) = true := by
 unfold lastN
 cases hl : acc.getLast? with
 | none => exact name_pos hn
 | some a =>
  have ha : a ∈ acc := List.mem_of_getLast? hl
  exact (List.pairwise_append.1 h).2.2 a ha d (by simp)
theorem bef_irr : ∀ a : List UInt8, bytesBefore a a = false
 | [] => rfl
 | a :: r => by
  show (decide (a < a) || (a == a && bytesBefore r r)) = false
  rw [bef_irr r]
  simp
theorem bef_asym : ∀ a b : List UInt8, bytesBefore a b = true → bytesBefore b a = false
 | [], [], h => by cases h
 | [], _ :: _, _ => rfl
 | _ :: _, [], h => by cases h
 | a :: x, b :: y, h => by
  have h : (decide (a < b) || (a == b && bytesBefore x y)) = true := h
  show (decide (b < a) || (b == a && bytesBefore y x)) = false
  rw [Bool.or_eq_true, decide_eq_true_eq, Bool.and_eq_true, beq_iff_eq] at h
  rcases h with h | ⟨rfl, h2⟩
  ·have h1 : ¬ b < a := fun e => absurd (UInt8.lt_trans h e) (UInt8.lt_irrefl _)
   have h2 : (b == a) = false := by
    cases hb : b == a with
    | false => rfl
    | true => rw [eq_of_beq hb] at h; exact absurd h (UInt8.lt_irrefl _)
   simp [h1, h2]
  ·rw [bef_asym x y h2]
   simp
end Go.Proofs.YtjelnmokcpoofaaGreatDoor
namespace Go.Proofs.YtjelnmokcpoofaaGreatDoor
set_option maxRecDepth 100000
open Go Go.RowKit Go.Proofs
def parseE (s : List UInt8) : Int := match readF s with
 | none => 5
 | some x => capE x
def ParQ (w : World) (s : List UInt8) (e : Ending) (w' : World) : Prop := ∃ f : FV, e = .returned (.tuple #[.agg #[.bool f.b1, .slice f.a1 f.n1 f.c1, .bool f.b2, .slice f.a2 f.n2 f.c2], .int .i64 (parseE s)]) ∧ Ext w w' ∧ (∀ x, readF s = some x → nf x ≤ 2048 → FracO w' w.heap.size (.agg #[.bool f.b1, .slice f.a1 f.n1 f.c1, .bool f.b2, .slice f.a2 f.n2 f.c2]) x)
theorem readF_nf {s : List UInt8} {x : Rat} (h : readF s = some x) : nf x ≤ s.length := by
 cases hc : cutL 47 s with
 | none =>
  rw [readF_miss hc] at h
  cases hr : readI s with
  | none => rw [hr] at h; cases h
  | some n =>
   rw [hr] at h
   simp only [Option.map_some, Option.some.injEq] at h
   subst h
   have h1 := readI_nl hr
   unfold nf
   rw [Rat.num_intCast, Rat.den_intCast]
   refine Nat.max_le.2 ⟨h1, ?_⟩
   refine nT (lim_one_le (by decide)) ?_
   have hs : s ≠ [] := by
    intro e
    rw [e] at hr
    cases hr
   exact List.length_pos_iff.2 hs
 | some p =>
  obtain ⟨f, b⟩ := p
  rw [readF_hit hc] at h
  have hl := congrArg List.length (cutL_some hc).1
  rw [List.length_append, List.length_cons] at hl
  cases hr : readI f with
  | none => rw [hr] at h; cases h
  | some n =>
   cases hq : readI b with
   | none => rw [hr, hq] at h; cases h
   | some d =>
    rw [hr, hq] at h
    simp only at h
    split at h
    ·rename_i hd
     cases h
     obtain ⟨e1, e2⟩ := rat_parts (by omega) hd.2
     unfold nf
     rw [e1, e2]
     have h1 := readI_nl hr
     have h2 := readI_nl hq
     exact Nat.max_le.2 ⟨by omega, by omega⟩
    ·cases h
set_option maxHeartbeats 3200000 in
theorem parse_c (s : ByteArray) (w : World) (hs : s.size ≤ 65536) (hm : Max0 w) : Calls Tryz.prog 39 #[.string s] w (ParQ w s.data.toList) := by
 obtain ⟨w1, hw1⟩ : ∃ w1, w1 = w.alloc (.cells #[.bool false, .slice none 0 0, .bool false, .slice none 0 0] 52) := ⟨_, rfl⟩
 have hE1 := mK (show Ext w w1 by rw [hw1]; exact (xR w).al _)
 have z1 := mK (show w1.heap[w.heap.size]? = some (.cells #[.bool false, .slice none 0 0, .bool false, .slice none 0 0] 52 (0, 0)) by rw [hw1]; exact heap_alloc_new _ _)
 have hz1 := mK (show w1.heap.size = w.heap.size + 1 by rw [hw1]; simp)
 have KR := mK (ratRead_c s w1 hs (hm.ext hE1.out))
 have hnf := mK (fun x (h : readF s.data.toList = some x) => nT (readF_nf h) (by rw [list_size]; exact hs))
 have hs' : ¬ (65536 : Int) < (s.size : Int) := by omega
 unfold ParQ parseE
 generalize readF s.data.toList = o at *
 replace hw1 := mK hw1
 clear hm hs
 cases o with
 | none =>
  go_enter Tryz.func39, Tryz.ntmps39
  have tok : Tok 0 := .mk _
  go_wp2_with (first
   | (replace tok : Tok 1 := nxT 0 tok; go_at_call 76; rw [← hw1.out]; refine KR.out.mono ?_; rintro e w2 ⟨f, b, rfl, hx2, ho⟩; (obtain rfl : b = false := (by rcases ho with ⟨_, h⟩ | ⟨x, h, _⟩; exact h; cases h)); (obtain ⟨w3, hw3⟩ : ∃ w3, w3 = (w2.alloc (.cells #[.bool false, .slice none 0 0, .bool false, .slice none 0 0] 52)).setRow w2.heap.size #[.bool f.b1, .slice f.a1 f.n1 f.c1, .bool f.b2, .slice f.a2 f.n2 f.c2] := ⟨_, rfl⟩); (have hx3 : Ext w2 w3 := by rw [hw3]; exact ((xR w2).al _).row (nR _) _); (have hE3 := mK ((hE1.out.trans hx2).trans hx3)); (have z3 := mK ((hx2.trans hx3).blk z1.out)); replace hw3 := mK hw3; clear ho hx2 hx3)
   | (replace tok : Tok 2 := nxT 1 tok; refine wpList_store_row rfl 52 (.tmp 4) (.tmp 13) rfl w2.heap.size #[.bool f.b1, .slice f.a1 f.n1 f.c1, .bool f.b2, .slice f.a2 f.n2 f.c2] rfl rfl 52 _ (heap_alloc_new _ _) (by kernel_rfl) rfl (by kernel_rfl) ?_; rw [← hw3.out])
   | (replace tok : Tok 3 := nxT 2 tok; refine wpList_store_row rfl 52 (.tmp 2) (.tmp 17) rfl w.heap.size #[.bool false, .slice none 0 0, .bool false, .slice none 0 0] rfl rfl 52 _ z3.out (by kernel_rfl) rfl (by kernel_rfl) ?_))
  refine bodyPost_ret (results_row_tmp rfl _ _ w.heap.size 52 #[.bool false, .slice none 0 0, .bool false, .slice none 0 0] _ _ rfl rfl (setRow_heap _ _ _ _ _ _ z3.out) Tryz.underlying52 rfl (by kernel_rfl)) rfl ?_
  exact ⟨⟨false, none, 0, 0, false, none, 0, 0⟩, rfl, hE3.out.row (nR _) _, fun x h => by cases h⟩
 | some x =>
  have hx := hnf.out x rfl
  have KA := mK (fun W v h => answered_o v x W (nT hx (by decide)) h)
  clear hnf hx
  go_enter Tryz.func39, Tryz.ntmps39
  have tok : Tok 0 := .mk _
  go_wp2_with (first
   | (replace tok : Tok 1 := nxT 0 tok; go_at_call 76; rw [← hw1.out]; refine KR.out.mono ?_; rintro e w2 ⟨f, b, rfl, hx2, ho⟩; (obtain ⟨rfl, hf⟩ : b = true ∧ FracO w2 w1.heap.size (.agg #[.bool f.b1, .slice f.a1 f.n1 f.c1, .bool f.b2, .slice f.a2 f.n2 f.c2]) x := (by rcases ho with ⟨h, _⟩ | ⟨y, h, h2, h3⟩; cases h; cases h; exact ⟨h2, h3⟩)); (obtain ⟨w3, hw3⟩ : ∃ w3, w3 = (w2.alloc (.cells #[.bool false, .slice none 0 0, .bool false, .slice none 0 0] 52)).setRow w2.heap.size #[.bool f.b1, .slice f.a1 f.n1 f.c1, .bool f.b2, .slice f.a2 f.n2 f.c2] := ⟨_, rfl⟩); (have hx3 : Ext w2 w3 := by rw [hw3]; exact ((xR w2).al _).row (nR _) _); (have hE3 := mK ((hE1.out.trans hx2).trans hx3)); (have z3 := mK ((hx2.trans hx3).blk z1.out)); (have y3 := mK (show w3.heap[w2.heap.size]? = some (.cells #[.bool f.b1, .slice f.a1 f.n1 f.c1, .bool f.b2, .slice f.a2 f.n2 f.c2] 52 (0, 0)) by rw [hw3]; exact setRow_heap _ _ _ _ _ _ (heap_alloc_new _ _))); (have hf3 := mK (hf.r.ext hx3)); replace hw3 := mK hw3; clear ho hx2 hx3 hf)
   | (replace tok : Tok 2 := nxT 1 tok; refine wpList_store_row rfl 52 (.tmp 4) (.tmp 13) rfl w2.heap.size #[.bool f.b1, .slice f.a1 f.n1 f.c1, .bool f.b2, .slice f.a2 f.n2 f.c2] rfl rfl 52 _ (heap_alloc_new _ _) (by kernel_rfl) rfl (by kernel_rfl) ?_; rw [← hw3.out])
   | (replace tok : Tok 3 := nxT 2 tok; refine wpList_load_row (by rfl) 52 (.tmp 4) rfl w2.heap.size rfl 52 #[.bool f.b1, .slice f.a1 f.n1 f.c1, .bool f.b2, .slice f.a2 f.n2 f.c2] (0, 0) _ y3.out Tryz.underlying52 rfl (by kernel_rfl) ?_)
   | (replace tok : Tok 4 := nxT 3 tok; go_at_call 77; refine (KA.out w3 _ hf3.out).mono ?_; rintro e w4 ⟨g, rfl, hx4, hg⟩; (have z4 := mK (hx4.blk z3.out)); (have hlt := mK (Nat.lt_of_lt_of_le (Array.getElem?_eq_some_iff.1 z3.out).1 (nR _))); (have hE4 := mK (hE3.out.trans hx4)); replace hg := mK hg; clear hx4)
   | (replace tok : Tok 5 := nxT 4 tok; refine wpList_store_row rfl 52 (.tmp 2) (.tmp 20) rfl w.heap.size #[.bool g.b1, .slice g.a1 g.n1 g.c1, .bool g.b2, .slice g.a2 g.n2 g.c2] rfl rfl 52 _ z4.out (by kernel_rfl) rfl (by kernel_rfl) ?_))
  refine bodyPost_ret (results_row_tmp rfl _ _ w.heap.size 52 #[.bool g.b1, .slice g.a1 g.n1 g.c1, .bool g.b2, .slice g.a2 g.n2 g.c2] _ _ rfl rfl (setRow_heap _ _ _ _ _ _ z4.out) Tryz.underlying52 rfl (by kernel_rfl)) rfl ?_
  refine ⟨g, rfl, hE4.out.row (nR _) _, fun y h hn => ?_⟩
  cases h
  exact ((hg.out hn).row hlt.out _).mono (Nat.le_of_lt hlt.out)
end Go.Proofs.YtjelnmokcpoofaaGreatDoor
namespace Go.Proofs.YtjelnmokcpoofaaGreatDoor
set_option maxRecDepth 100000
open Go Go.RowKit Go.Proofs Go.WideElems Go.ChangeMaps Go.MapKept
theorem fr_entry {P : Program} {S : World → Value → Prop} {o : Oper} {a : Act} {W : World} {X : Prop} {c : Prop} {ic : Decidable c} (hw : c) (ty : TypeId) (m k : Operand) (ho : o.op = .mapEntry ty m k) (vm vk : Value)
  (hm : a.eval m = vm) (hk : a.eval k = vk) (h : ∃ v W', (Instr.mapEntry ty vm vk).run P W = .ok v W' ∧ S W' v) : if c then givesV P S ((execOp a.eval o).run P W) else X := by
 obtain ⟨v, W', hr, h⟩ := h
 rw [if_pos hw]
 unfold execOp
 simp only [ho, hm, hk, Sem.run_bind, hr, Result.andThen_ok, Sem.run_pure]
 exact h
theorem fr_estore {P : Program} {S : World → Value → Prop} {o : Oper} {a : Act} {W : World} {X : Prop} {c : Prop} {ic : Decidable c} (hw : c) (ty : TypeId) (m k x : Operand) (ho : o.op = .entryStore ty m k x) (vm vk vx : Value)
  (hm : a.eval m = vm) (hk : a.eval k = vk) (hx : a.eval x = vx) (h : ∃ W', (Instr.entryStore ty vm vk vx).run P W = .ok () W' ∧ S W' undef) : if c then givesV P S ((execOp a.eval o).run P W) else X := by
 obtain ⟨W', hr, h⟩ := h
 rw [if_pos hw]
 unfold execOp
 simp only [ho, hm, hk, hx, Sem.run_bind, hr, Result.andThen_ok, Sem.run_pure]
 exact h
theorem fr_extract1 {P : Program} {S : World → Value → Prop} {o : Oper} {a : Act} {W : World} {X : Prop} {c : Prop} {ic : Decidable c} (hw : c) (x : Operand) (ho : o.op = .extract x 1) (vx y : Value) (hx : a.eval x = vx) (h : ∃ u, vx = .tuple #[u, y]) (hS : S W y) :
  if c then givesV P S ((execOp a.eval o).run P W) else X := by
 obtain ⟨u, rfl⟩ := h
 rw [if_pos hw]
 unfold execOp
 simp only [ho, hx]
 simp [Instr.extract]
 exact hS
end Go.Proofs.YtjelnmokcpoofaaGreatDoor
namespace Go.Proofs.YtjelnmokcpoofaaGreatDoor
set_option maxRecDepth 100000
open Go Go.RowKit Go.Proofs
def PartQ (w : World) (d : PD) (e : Ending) (w' : World) : Prop :=
 ∃ p q : FV, e = .returned (.tuple #[.agg #[.string d.nm, .int .u8 d.kd, .bool p.b1, .slice p.a1 p.n1 p.c1, .bool p.b2, .slice p.a2 p.n2 p.c2, .bool q.b1, .slice q.a1 q.n1 q.c1, .bool q.b2, .slice q.a2 q.n2 q.c2, .int .i64 d.co], .int .i64 0]) ∧ FracO w' w.heap.size (.agg #[.bool p.b1, .slice p.a1 p.n1 p.c1, .bool p.b2, .slice p.a2 p.n2 p.c2]) d.p ∧ FracO w' w.heap.size (.agg #[.bool q.b1, .slice q.a1 q.n1 q.c1, .bool q.b2, .slice q.a2 q.n2 q.c2]) d.q ∧ Ext w w'
theorem data_inj : ∀ {a b : List ByteArray}, a.map (·.data.toList) = b.map (·.data.toList) → a = b
 | [], [], _ => rfl
 | [], _ :: _, h => by cases h
 | _ :: _, [], h => by cases h
 | x :: a, y :: b, h => by
  simp only [List.map_cons, List.cons.injEq] at h
  obtain ⟨h1, h2⟩ := h
  have e : x = y := ByteArray.ext (Array.ext' h1)
  rw [e, data_inj h2]
theorem split_ws (s : ByteArray) (W : World) (hs : s.size ≤ 65536) (hm : Max0 W) (ws : List ByteArray) (hw : wordsL 32 s.data.toList = ws.map (·.data.toList)) :
  Calls Tryz.prog 35 #[.string s, .string ⟨#[32]⟩] W fun e w2 => e = .returned (.slice (some ⟨W.heap.size, 0, none⟩) ws.length ws.length) ∧ w2.heap[W.heap.size]? = some (.cells (ws.map Value.string).toArray 9 (0, 0)) ∧ w2.heap.size = W.heap.size + 1 ∧ Ext W w2 := by
 obtain ⟨m, hm⟩ := hm
 have e1 : Lib.splitB ⟨#[32]⟩ 0 (Lib.countB s ⟨#[32]⟩) s = ws := data_inj ((splitB_words 32 s).trans hw)
 have e2 : Lib.countB s ⟨#[32]⟩ + 1 = ws.length := by rw [← e1]; exact (Lib.splitB_all ⟨#[32]⟩ (by decide) 0 _ s rfl).symm
 refine (Tryz.strings_Split s ⟨#[32]⟩ m W (by omega) hm (by decide)).mono ?_
 rintro e w2 ⟨rfl, rfl⟩
 rw [e1, e2]
 exact ⟨rfl, heap_alloc_new _ _, by simp, (xR W).al _⟩
def KdR (K : Int) (N : Nat) (w6 w7 : World) (t5 t6 : Value) (wr : World) : Prop :=
 ∃ k : Nat, 1 ≤ k ∧ k ≤ 6 ∧ t6 = .int .u8 (k : Int) ∧ ((K < (k : Int) ∧ t5 = .int .i64 (N : Int) ∧ wr = w7) ∨ ((k : Int) ≤ K ∧ t5 = .int .i64 (-1) ∧ wr = w6))
theorem word_eq {i k : Int} (hi : 1 ≤ i ∧ i ≤ 5) (hk : 1 ≤ k ∧ k ≤ 5) : ((⟨(wordB i).toArray⟩ : ByteArray).toList == (⟨(wordB k).toArray⟩ : ByteArray).toList) = decide (i = k) := by
 rw [ByteArray.toList_eq, ByteArray.toList_eq]
 have h1 : i = 1 ∨ i = 2 ∨ i = 3 ∨ i = 4 ∨ i = 5 := by omega
 have h2 : k = 1 ∨ k = 2 ∨ k = 3 ∨ k = 4 ∨ k = 5 := by omega
 rcases h1 with rfl | rfl | rfl | rfl | rfl <;> rcases h2 with rfl | rfl | rfl | rfl | rfl <;> decide
theorem frac_ok (c : ByteArray) (P : Rat) (w : World) (hc : c.size ≤ 65536) (hm : Max0 w) (h : readF c.data.toList = some P) (hn : nf P ≤ 2048) :
  Calls Tryz.prog 39 #[.string c] w fun e w' => ∃ f : FV, e = .returned (.tuple #[.agg #[.bool f.b1, .slice f.a1 f.n1 f.c1, .bool f.b2, .slice f.a2 f.n2 f.c2], .int .i64 0]) ∧ Ext w w' ∧ FracO w' w.heap.size (.agg #[.bool f.b1, .slice f.a1 f.n1 f.c1, .bool f.b2, .slice f.a2 f.n2 f.c2]) P := by
 refine (parse_c c w hc hm).mono ?_
 rintro e w' ⟨f, rfl, h1, h2⟩
 have e0 : parseE c.data.toList = 0 := by
  unfold parseE
  rw [h]
  exact if_pos hn
 rw [e0]
 exact ⟨f, rfl, h1, h2 P h hn⟩
end Go.Proofs.YtjelnmokcpoofaaGreatDoor
namespace Go.Proofs.YtjelnmokcpoofaaGreatDoor
set_option maxRecDepth 100000
open Go Go.RowKit Go.Proofs Go.WideElems Go.ChangeMaps Go.MapKept
def newA (a : Array MapEntry) (s : ByteArray) (v : Value) (clock : Nat) : Obj := .map (a.push ⟨.string s, v, clock⟩) (clock + 1)
theorem newA_ne {a : Array MapEntry} {s : ByteArray} {v : Value} {clock : Nat} : Obj.map a clock ≠ newA a s v clock := by
 intro h
 unfold newA at h
 injection h with _ h
 omega
theorem mapP_size {w : World} {M : Nat} {es : List (PD × Value)} (h : MapP w M es) : ∃ a clock, w.heap[M]? = some (.map a clock) ∧ WideElems.Fit Tryz.prog 9 heldR a clock ∧ a.size = es.length := by
 obtain ⟨a, clock, hb, F, hs, hD⟩ := h
 refine ⟨a, clock, hb, F, ?_⟩
 have := congrArg Maps.size hD
 simp only [Maps.size_eq, List.length_map, length_sorted, Array.length_toList] at this
 omega
theorem mapP_new {w : World} {M : Nat} {es : List (PD × Value)} (h : MapP w M es) (x : PD × Value) (hs : x.1.nm.size ≤ maxLen) (hn : es.length < maxLen) (hf : findP x.1.nm es = none) :
  ∃ a clock, w.heap[M]? = some (.map a clock) ∧ WideElems.Fit Tryz.prog 9 heldR a clock ∧ (∀ e ∈ a.toList, e.key ≠ .string x.1.nm) ∧ ∀ W : World, W.heap[M]? = some (newA a x.1.nm x.2 clock) → MapP W M (insP x es) := by
 obtain ⟨a, clock, hb, F, hsz⟩ := mapP_size h
 obtain ⟨w', h1, h2, h3⟩ := h.store x hs hn hf
 have K := WideMaps.string_law (P := Tryz.prog) (k := 9) Tryz.underlying9
 have hkey := key_str hs
 have hlt : M < w.heap.size := (Array.getElem?_eq_some_iff.1 hb).1
 refine ⟨a, clock, hb, F, ?_⟩
 rcases K.find w hkey a.toList F.keys with ⟨g1, g2⟩ | ⟨j, e0, g1, g2, g3⟩
 ·refine ⟨g2, fun W hW => ?_⟩
  have hr : (Instr.mapUpdate 59 (.map (some M)) (.string x.1.nm) x.2).run Tryz.prog w = .ok () (setBlock w M (newA a x.1.nm x.2 clock)) := by
   simp [Instr.mapUpdate, run_underlying Tryz.underlying59, MapKept.run_getObj_map hb, K.check w false hkey, g1, MapKept.run_setObj_map _ hb, Result.andThen, setBlock, newA]
  rw [h1] at hr
  injection hr with _ hr
  refine h2.blk ?_
  rw [hW, hr]
  simp [setBlock, hlt]
 ·exfalso
  have hj : a[j]? = some e0 := by simpa using g2
  have hr : (Instr.mapUpdate 59 (.map (some M)) (.string x.1.nm) x.2).run Tryz.prog w = .ok () (setBlock w M (.map (a.modify j (fun e' => { e' with key := .string x.1.nm, val := x.2 })) clock)) := by
   simp [Instr.mapUpdate, run_underlying Tryz.underlying59, MapKept.run_getObj_map hb, K.check w false hkey, g1, hj, g3, K.stays w hkey, MapKept.run_setObj_map _ hb, Result.andThen, setBlock]
  rw [h1] at hr
  injection hr with _ hr
  obtain ⟨a2, clock2, hb2, -, hsz2⟩ := mapP_size h2
  rw [hr] at hb2
  have e : (setBlock w M (.map (a.modify j (fun e' => { e' with key := .string x.1.nm, val := x.2 })) clock)).heap[M]? = some (.map (a.modify j (fun e' => { e' with key := .string x.1.nm, val := x.2 })) clock) := by simp [setBlock, hlt]
  rw [e] at hb2
  cases hb2
  rw [Array.size_modify, insP_length] at hsz2
  omega
theorem entry_newA (W : World) (M clock : Nat) (a : Array MapEntry) (s : ByteArray) (hs : s.size ≤ maxLen) (F : WideElems.Fit Tryz.prog 9 heldR a clock) (hn : ∀ e ∈ a.toList, e.key ≠ .string s) (hb : W.heap[M]? = some (.map a clock)) :
  (Instr.mapEntry 59 (.map (some M)) (.string s)).run Tryz.prog W = .ok (.tuple #[zeroPart, .int .i64 clock]) (setBlock W M (newA a s zeroPart clock)) := by
 have K := WideMaps.string_law (P := Tryz.prog) (k := 9) Tryz.underlying9
 have hkey := key_str hs
 rcases K.find W hkey a.toList F.keys with ⟨h1, h2⟩ | ⟨j, e0, h1, h2, h3⟩
 ·simp [Instr.mapEntry, run_underlying Tryz.underlying59, MapKept.run_getObj_map hb, K.check W false hkey, h1, zero_part W, MapKept.run_setObj_map _ hb, Result.andThen, setBlock, newA, goInt]
 ·exact absurd h3 (hn e0 (List.mem_of_getElem? h2))
theorem keys_push {a : Array MapEntry} {clock : Nat} {s : ByteArray} {v : Value} (hs : s.size ≤ maxLen) (F : WideElems.Fit Tryz.prog 9 heldR a clock) : ∀ e ∈ (a.push ⟨.string s, v, clock⟩).toList, ∃ l, keyOf Tryz.prog 9 e.key = some l := by
 intro e he
 rw [Array.toList_push, List.mem_append, List.mem_singleton] at he
 rcases he with he | rfl
 ·exact F.keys e he
 ·exact ⟨_, key_str hs⟩
theorem idx_push {a : Array MapEntry} {clock : Nat} {s : ByteArray} {v : Value} (F : WideElems.Fit Tryz.prog 9 heldR a clock) : (a.push ⟨.string s, v, clock⟩).findIdx? (fun e => ((e.born : Nat) : Int) == ((clock : Nat) : Int)) = some a.size := by
 obtain ⟨s1, s2, _⟩ := F.stamped
 rw [findIdx_arr]
 exact findIdx_born (l := (a.push ⟨.string s, v, clock⟩).toList) (j := a.size) (e0 := ⟨.string s, v, clock⟩) (by
  simp only [Array.toList_push, List.map_append, List.map_cons, List.map_nil]
  refine List.nodup_append.2 ⟨s2, by simp, fun b ha c hc e1 => ?_⟩
  simp only [List.mem_singleton] at hc
  obtain ⟨x, hx, rfl⟩ := List.mem_map.1 ha
  have := s1 x hx
  omega) (by simp)
theorem entry_oldA (W : World) (M clock : Nat) (a : Array MapEntry) (s : ByteArray) (x : Value) (hs : s.size ≤ maxLen) (F : WideElems.Fit Tryz.prog 9 heldR a clock) (hn : ∀ e ∈ a.toList, e.key ≠ .string s) (hb : W.heap[M]? = some (newA a s x clock)) :
  (Instr.mapEntry 59 (.map (some M)) (.string s)).run Tryz.prog W = .ok (.tuple #[x, .int .i64 clock]) (setBlock W M (newA a s x clock)) := by
 have K := WideMaps.string_law (P := Tryz.prog) (k := 9) Tryz.underlying9
 have hkey := key_str hs
 unfold newA at hb ⊢
 have hk := keys_push (v := x) hs F
 have hmem : ∀ e ∈ (a.push ⟨.string s, x, clock⟩).toList, e.key = .string s → e = ⟨.string s, x, clock⟩ := fun e he h3 => by
  rw [Array.toList_push, List.mem_append, List.mem_singleton] at he
  rcases he with hm | hm
  ·exact absurd h3 (hn e hm)
  ·exact hm
 have hin : (⟨.string s, x, clock⟩ : MapEntry) ∈ (a.push ⟨.string s, x, clock⟩).toList := by simp
 generalize a.push ⟨.string s, x, clock⟩ = B at *
 rcases K.find W hkey B.toList hk with ⟨h1, h2⟩ | ⟨j, e0, h1, h2, h3⟩
 ·exact absurd rfl (h2 _ hin)
 ·have hj : B[j]? = some e0 := by simpa using h2
  have he := hmem e0 (List.mem_of_getElem? h2) h3
  have hsame : B.modify j (fun e => { e with key := .string s }) = B := by
   apply Array.ext'
   rw [Array.toList_modify, modify_eq_set _ _ _ _ h2]
   have : ({ e0 with key := .string s } : MapEntry) = e0 := by rw [← h3]
   rw [this]
   exact set_self _ _ _ h2
  subst he
  simp [Instr.mapEntry, run_underlying Tryz.underlying59, MapKept.run_getObj_map hb, K.check W false hkey, h1, hj, K.stays W hkey, hsame, MapKept.run_setObj_map _ hb, Result.andThen, setBlock, goInt]
theorem entry_storeA (W : World) (M clock : Nat) (a : Array MapEntry) (s : ByteArray) (x val : Value) (F : WideElems.Fit Tryz.prog 9 heldR a clock) (hb : W.heap[M]? = some (newA a s x clock)) :
  (Instr.entryStore 59 (.map (some M)) (.int .i64 clock) val).run Tryz.prog W = .ok () (setBlock W M (newA a s val clock)) := by
 unfold newA at hb
 have hidx := idx_push (s := s) (v := x) F
 have hmod : (a.push ⟨.string s, x, clock⟩).modify a.size (fun e => { e with val := val }) = a.push ⟨.string s, val, clock⟩ := by
  apply Array.ext'
  rw [Array.toList_modify, Array.toList_push, Array.toList_push, ← Array.length_toList, modify_last]
 simp [Instr.entryStore, MapKept.run_getObj_map hb, asInt, asIntOf, hidx, hmod, MapKept.run_setObj_map _ hb, Result.andThen, setBlock, newA]
structure EnA (M : Nat) (a : Array MapEntry) (s : ByteArray) (v : Value) (clock : Nat) (w w' : World) : Prop where
 os : w'.os = w.os
 tape : w'.tape = w.tape
 output : w'.output = w.output
 size : w.heap.size ≤ w'.heap.size
 block : ∀ k, k < w.heap.size → k ≠ M → w'.heap[k]? = w.heap[k]?
 map : w'.heap[M]? = w.heap[M]? ∨ (w.heap[M]? = some (.map a clock) ∧ w'.heap[M]? = some (newA a s zeroPart clock)) ∨ w'.heap[M]? = some (newA a s v clock) ∨ w.heap.size ≤ M
section
variable {M clock : Nat} {a : Array MapEntry} {s : ByteArray} {v : Value}
theorem EnA.of_ext {w w' : World} (e : Ext w w') : EnA M a s v clock w w' :=
 ⟨e.os, e.tape, e.output, e.size, fun k h _ => e.block k h, by
  rcases Nat.lt_or_ge M w.heap.size with h | h
  ·exact .inl (e.block M h)
  ·exact .inr (.inr (.inr h))⟩
theorem EnA.trans {x y z : World} (h : EnA M a s v clock x y) (k : EnA M a s v clock y z) : EnA M a s v clock x z := by
 refine ⟨k.os.trans h.os, k.tape.trans h.tape, k.output.trans h.output, nT h.size k.size, fun i hi hn => (k.block i (Nat.lt_of_lt_of_le hi h.size) hn).trans (h.block i hi hn), ?_⟩
 rcases k.map with e | ⟨e1, e2⟩ | e | e
 ·rcases h.map with f | ⟨f1, f2⟩ | f | f
  ·exact .inl (e.trans f)
  ·exact .inr (.inl ⟨f1, e.trans f2⟩)
  ·exact .inr (.inr (.inl (e.trans f)))
  ·exact .inr (.inr (.inr f))
 ·rcases h.map with f | ⟨f1, f2⟩ | f | f
  ·exact .inr (.inl ⟨f.symm.trans e1, e2⟩)
  ·exact .inr (.inl ⟨f1, e2⟩)
  ·rw [e1] at f
   exact absurd (Option.some.inj f) newA_ne
  ·exact .inr (.inr (.inr f))
 ·exact .inr (.inr (.inl e))
 ·exact .inr (.inr (.inr (nT h.size e)))
theorem EnA.blk {k : Nat} {w w' : World} {o : Obj} (h : EnA M a s v clock w w') (hk : w.heap[k]? = some o) (hne : k ≠ M) : w'.heap[k]? = some o :=
 (h.block k (Array.getElem?_eq_some_iff.1 hk).1 hne).trans hk
theorem EnA.set {o o' : Obj} {w : World} (ho : w.heap[M]? = some o) (hc : o' = o ∨ (o = .map a clock ∧ o' = newA a s zeroPart clock) ∨ o' = newA a s v clock) : EnA M a s v clock w (setBlock w M o') := by
 have hlt : M < w.heap.size := (Array.getElem?_eq_some_iff.1 ho).1
 have e : (setBlock w M o').heap[M]? = some o' := by simp [setBlock, hlt]
 refine ⟨rfl, rfl, rfl, by simp [setBlock], fun k _ hne => by simp [setBlock, Array.getElem?_setIfInBounds_ne (Ne.symm hne)], ?_⟩
 rw [e, ho]
 rcases hc with rfl | ⟨rfl, rfl⟩ | rfl
 ·exact .inl rfl
 ·exact .inr (.inl ⟨rfl, rfl⟩)
 ·exact .inr (.inr (.inl rfl))
def HasE (M : Nat) (a : Array MapEntry) (s : ByteArray) (v : Value) (clock : Nat) (W : World) : Prop := W.heap[M]? = some (newA a s zeroPart clock) ∨ W.heap[M]? = some (newA a s v clock)
theorem HasE.stable {w w' : World} (e : EnA M a s v clock w w') (h : HasE M a s v clock w) : HasE M a s v clock w' := by
 rcases e.map with f | ⟨f1, f2⟩ | f | f
 ·unfold HasE
  rw [f]
  exact h
 ·exact .inl f2
 ·exact .inr f
 ·rcases h with h | h <;> (have := (Array.getElem?_eq_some_iff.1 h).1; omega)
theorem done_stable {w w' : World} (e : EnA M a s v clock w w') (h : w.heap[M]? = some (newA a s v clock)) : w'.heap[M]? = some (newA a s v clock) := by
 rcases e.map with f | ⟨f1, f2⟩ | f | f
 ·exact f.trans h
 ·rw [h] at f1
  exact absurd (Option.some.inj f1).symm newA_ne
 ·exact f
 ·have := (Array.getElem?_eq_some_iff.1 h).1
  omega
def EntA (M : Nat) (a : Array MapEntry) (s : ByteArray) (v : Value) (clock : Nat) (W : World) (x : Value) : Prop := (∃ y, x = .tuple #[y, .int .i64 clock]) ∧ HasE M a s v clock W
def ClkA (M : Nat) (a : Array MapEntry) (s : ByteArray) (v : Value) (clock : Nat) (W : World) (x : Value) : Prop := x = .int .i64 clock ∧ HasE M a s v clock W
def DoneA (M : Nat) (a : Array MapEntry) (s : ByteArray) (v : Value) (clock : Nat) (W : World) (_ : Value) : Prop := W.heap[M]? = some (newA a s v clock)
theorem sA_val {ss : List FSpec} (c : Value) (h : StableAll (EnA M a s v clock) ss) : StableAll (EnA M a s v clock) (.val c :: ss) := stable_vals c h
theorem sA_ent {ss : List FSpec} (h : StableAll (EnA M a s v clock) ss) : StableAll (EnA M a s v clock) (.pred (EntA M a s v clock) :: ss) := ⟨fun _ _ _ e k => ⟨k.1, k.2.stable e⟩, h⟩
theorem sA_clk {ss : List FSpec} (h : StableAll (EnA M a s v clock) ss) : StableAll (EnA M a s v clock) (.pred (ClkA M a s v clock) :: ss) := ⟨fun _ _ _ e k => ⟨k.1, k.2.stable e⟩, h⟩
theorem sA_done {ss : List FSpec} (h : StableAll (EnA M a s v clock) ss) : StableAll (EnA M a s v clock) (.pred (DoneA M a s v clock) :: ss) := ⟨fun _ _ _ e k => done_stable e k, h⟩
theorem region_entryA {id : Nat} {l : List Oper} {t : Act} {w : World} {Q : Exit → Act → World → Prop} (M : Nat) (a : Array MapEntry) (s : ByteArray) (v : Value) (clock : Nat) (specs : List FSpec) (hok : okFreeS specs.length t.tmps.size l = true) (hst : StableAll (EnA M a s v clock) specs) (hvo : VoidAll l specs)
  (h : freeSteps Tryz.prog l (EnA M a s v clock) w Q 0 specs l t []) : (Code.region id l.toArray true).wp Tryz.prog Q t w :=
 region_freeS (EnA M a s v clock) specs mixed hok (fun w => .of_ext (xR w)) (fun _ _ _ => EnA.trans) (fun w => .of_ext ((xR w).dr)) (stableAll_mem hst) hvo h
end
theorem name_cmp {a b : ByteArray} (h : bytesBefore a.data.toList b.data.toList = true) : Op.bytesLess a.toList b.toList = true ∧ Op.bytesLess b.toList a.toList = false ∧ (a.toList == b.toList) = false ∧ (b.toList == a.toList) = false := by
 rw [ByteArray.toList_eq, ByteArray.toList_eq, less_bef, less_bef]
 have hlt := before_lt _ _ h
 have hne : a.data.toList ≠ b.data.toList := fun e => by rw [e, WideAt.bytes_irrefl] at h; cases h
 refine ⟨h, ?_, by simpa using hne, by simpa using Ne.symm hne⟩
 cases hb : bytesBefore b.data.toList a.data.toList with
 | false => rfl
 | true => exact absurd (List.lt_trans hlt (before_lt _ _ hb)) (List.lt_irrefl _)
def LineE (W : World) (c : Int) (e : Ending) (w' : World) : Prop := e = .returned (.tuple #[.agg #[.string ⟨#[]⟩, .int .u8 0, .bool false, .slice none 0 0, .bool false, .slice none 0 0, .bool false, .slice none 0 0, .bool false, .slice none 0 0, .int .i64 0], .int .i64 c]) ∧ Ext W w'
inductive EndQ (w : World) (ds : List PD) (rest : List UInt8) : Int → Prop
 | done : rest = [] → EndQ w ds rest 0
 | cut : rest ≠ [] → cutL 10 rest = none → EndQ w ds rest 5
 | line (t r : List UInt8) (c : Int) : cutL 10 rest = some (t, r) → c ≠ 0 → (∀ W, Ext w W → Calls Tryz.prog 16 #[.string ⟨t.toArray⟩] W (LineE W c)) → EndQ w ds rest c
 | name (t r : List UInt8) (d : PD) : cutL 10 rest = some (t, r) → (∀ W, Ext w W → Calls Tryz.prog 16 #[.string ⟨t.toArray⟩] W (PartQ W d)) → bytesBefore (lastN ds) (nmL d) = false → EndQ w ds rest 5
 | full (t r : List UInt8) (d : PD) : cutL 10 rest = some (t, r) → (∀ W, Ext w W → Calls Tryz.prog 16 #[.string ⟨t.toArray⟩] W (PartQ W d)) → bytesBefore (lastN ds) (nmL d) = true → 64 ≤ ds.length → EndQ w ds rest 12
def ParseQ (w : World) (ds : List PD) (code : Int) (e : Ending) (w' : World) : Prop :=
 (code = 0 ∧ ∃ g M es, e = .returned (.tuple #[.pointer (some ⟨g, 0, none⟩), .int .i64 0, .int .i64 0]) ∧ Cat w' g M es ∧ es.map (·.1) = ds ∧ Ext w w' ∧ w.heap.size ≤ g ∧ w.heap.size ≤ M) ∨
 (code ≠ 0 ∧ e = .returned (.tuple #[.pointer none, .int .i64 ds.length, .int .i64 code]) ∧ Ext w w')
theorem Cat.putR {w w' : World} {g M : Nat} {es : List (PD × Value)} {d : PD} {v : Value} {lo : Nat} (h : Cat w g M es) (hm : MapP w' M (insP (d, v) es)) (hg : ∀ k, k < w.heap.size → k ≠ M → w'.heap[k]? = w.heap[k]?) (hs : w.heap.size ≤ w'.heap.size)
  (hr : PartR w v d) (hv : ∀ k ∈ Aloof.blks v, lo ≤ k ∧ k < w.heap.size) (hlo : M < lo) (hd : okPD d) (hl : es.length < 64) : Cat w' g M (insP (d, v) es) := by
 refine ⟨(hg g (Array.getElem?_eq_some_iff.1 h.str).1 h.ne).trans h.str, hm, fun x hx => ?_, fun x hx k hk => ?_, fun x hx k hk => ?_, fun x hx => ?_, by rw [insP_length]; omega⟩
 ·rcases mem_insP.1 hx with rfl | hx
  ·exact hr.near fun k hk => hg k (hv k hk).2 (by have := (hv k hk).1; omega)
  ·exact (h.part x hx).near fun k hk => hg k (h.lie x hx k hk) (h.out x hx k hk)
 ·rcases mem_insP.1 hx with rfl | hx
  ·exact Nat.lt_of_lt_of_le (hv k hk).2 hs
  ·exact Nat.lt_of_lt_of_le (h.lie x hx k hk) hs
 ·rcases mem_insP.1 hx with rfl | hx
  ·have := (hv k hk).1
   omega
  ·exact h.out x hx k hk
 ·rcases mem_insP.1 hx with rfl | hx
  ·exact hd
  ·exact h.ok x hx
theorem find_last {es : List (PD × Value)} {d : PD} (h : ∀ x ∈ es, bytesBefore (nmL x.1) (nmL d) = true) : findP d.nm es = none := by
 unfold findP
 rw [List.find?_eq_none]
 intro x hx hn
 have h1 := h x hx
 unfold nameIs at hn
 have e : nmL x.1 = nmL d := eq_of_beq hn
 rw [e, bef_irr] at h1
 cases h1
theorem ins_last {d : PD} {v : Value} : ∀ {es : List (PD × Value)}, (∀ x ∈ es, bytesBefore (nmL x.1) (nmL d) = true) → insP (d, v) es = es ++ [(d, v)]
 | [], _ => rfl
 | y :: r, h => by
  unfold insP
  rw [if_neg (by have := bef_asym _ _ (h y (by simp)); unfold nmL at this; rw [this]; simp), ins_last fun x hx => h x (by simp [hx])]
  rfl
theorem okPD_sz {d : PD} (h : okPD d) : d.nm.size ≤ 32 := by
 have := h.2.2.1
 unfold nameB at this
 simp only [Bool.and_eq_true, decide_eq_true_eq] at this
 have h2 := this.2.1
 rwa [list_size] at h2
theorem bef_total : ∀ a b : List UInt8, bytesBefore a b = false → bytesBefore b a = true ∨ b = a
 | [], [], _ => .inr rfl
 | [], _ :: _, h => by cases h
 | _ :: _, [], _ => .inl rfl
 | a :: x, b :: y, h => by
  have h : (decide (a < b) || (a == b && bytesBefore x y)) = false := h
  rw [Bool.or_eq_false_iff, decide_eq_false_iff_not] at h
  obtain ⟨h1, h2⟩ := h
  by_cases e : a = b
  ·subst e
   rw [beq_self_eq_true, Bool.true_and] at h2
   rcases bef_total x y h2 with h3 | h3
   ·refine .inl ?_
    show (decide (a < a) || (a == a && bytesBefore y x)) = true
    rw [h3]
    simp
   ·exact .inr (by rw [h3])
  ·refine .inl ?_
   have hlt : b < a := by
    rcases UInt8.lt_or_lt_of_ne e with h | h
    ·exact absurd h h1
    ·exact h
   show (decide (b < a) || (b == a && bytesBefore y x)) = true
   simp [hlt]
def ParI (w : World) (g M : Nat) (ds : List PD) (rest : List UInt8) (t0 t2 t3 t5 : Value) (wr : World) : Prop :=
 ∃ (k : Nat) (es : List (PD × Value)) (C L : ByteArray), k ≤ ds.length ∧ t2 = .pointer (some ⟨g, 0, none⟩) ∧ t0 = .string C ∧ C.data.toList = textB (ds.drop k) ++ rest ∧ t3 = .int .i64 k ∧ t5 = .string L ∧ L.data.toList = lastN (ds.take k) ∧ Cat wr g M es ∧ es.map (·.1) = ds.take k ∧ Ext w wr
theorem lastN_snoc (l : List PD) (d : PD) : lastN (l ++ [d]) = nmL d := by
 unfold lastN
 rw [List.getLast?_concat]
 rfl
theorem FracO.part {w : World} {lo : Nat} {d : PD} {p q : FV} (h1 : FracO w lo (.agg #[.bool p.b1, .slice p.a1 p.n1 p.c1, .bool p.b2, .slice p.a2 p.n2 p.c2]) d.p) (h2 : FracO w lo (.agg #[.bool q.b1, .slice q.a1 q.n1 q.c1, .bool q.b2, .slice q.a2 q.n2 q.c2]) d.q) : ∀ k ∈ Aloof.blks (.agg #[.string d.nm, .int .u8 d.kd, .bool p.b1, .slice p.a1 p.n1 p.c1, .bool p.b2, .slice p.a2 p.n2 p.c2, .bool q.b1, .slice q.a1 q.n1 q.c1, .bool q.b2, .slice q.a2 q.n2 q.c2, .int .i64 d.co]), lo ≤ k ∧ k < w.heap.size := by
 rw [blks_part]
 intro g hg
 rcases List.mem_append.1 hg with hg | hg
 ·exact h1.span g hg
 ·exact h2.span g hg
end Go.Proofs.YtjelnmokcpoofaaGreatDoor
namespace Go.Proofs.YtjelnmokcpoofaaGreatDoor
set_option maxRecDepth 100000
open Go Go.RowKit Go.Proofs Go.Lib
theorem kindL_back {l : List UInt8} {k : Int} (h : kindL l = some k) : wordB k = l := by
 unfold kindL at h
 repeat' split at h
 all_goals first
  | (rename_i e; cases h; exact e.symm)
  | cases h
theorem numB_back {b : List UInt8} {n : Int} (h : numB b = some n) : itoa n = b ∧ 0 ≤ n := by
 unfold numB at h
 split at h
 ·split at h
  ·rename_i h1
   cases h
   exact ⟨h1.2.1, h1.2.2⟩
  ·cases h
 ·cases h
theorem fracL_back {s : List UInt8} {x : Rat} (h : fracL true s = .ok x) : ratText x = s ∧ nf x ≤ 2048 := by
 unfold fracL at h
 rw [if_pos rfl] at h
 split at h
 ·cases h
 ·rename_i y hy
  split at h
  ·rename_i hn
   cases h
   exact ⟨text_readF hy, hn⟩
  ·cases h
theorem fracL_off {s : List UInt8} {x : Rat} (h : fracL false s = .ok x) : x = 0 := by
 unfold fracL at h
 rw [if_neg (by simp)] at h
 cases h
 rfl
theorem fracL_nf {b : Bool} {s : List UInt8} {x : Rat} (h : fracL b s = .ok x) : nf x ≤ 2048 := by
 cases b with
 | true => exact (fracL_back h).2
 | false => rw [fracL_off h]; exact nf_none
theorem joinL_tail : ∀ (fr : List Rat) (x : List UInt8), joinL 32 (x :: fr.map ratText) = x ++ tailB fr
 | [], x => by simp [joinL, tailB]
 | f :: fr, x => by
  rw [List.map_cons]
  show x ++ 32 :: joinL 32 (ratText f :: fr.map ratText) = _
  rw [joinL_tail fr (ratText f)]
  simp [tailB]
theorem shape3 {ws : List (List UInt8)} {n : Nat} (h : ws.length = 3 + n) : ∃ a b c fr, ws = a :: b :: c :: fr ∧ fr.length = n := by
 match ws, h with
 | a :: b :: c :: fr, h => exact ⟨a, b, c, fr, rfl, by simp only [List.length_cons] at h; omega⟩
 | [], h => simp at h; omega
 | [_], h => simp at h; omega
 | [_, _], h => simp at h; omega
theorem readL_back {t : List UInt8} {d : PD} (h : readL t = .ok d) : okPD d ∧ lineT d = t := by
 have hj := joinL_words 32 t
 unfold readL at h
 generalize wordsL 32 t = ws at *
 by_cases hl : 2 < ws.length
 ·rw [if_pos hl] at h
  cases hk : kindL (ws.getD 2 []) with
  | none => rw [hk] at h; cases h
  | some K =>
   rw [hk] at h
   simp only at h
   by_cases hn : ws.length = 3 + wordN K
   ·rw [if_pos hn] at h
    cases hb : numB (ws.getD 1 []) with
    | none => rw [hb] at h; cases h
    | some M =>
     rw [hb] at h
     simp only at h
     cases hm : nameB (ws.getD 0 []) with
     | false => rw [hm, if_neg (by decide)] at h; cases h
     | true =>
      rw [hm, if_pos rfl] at h
      cases hp : fracL (decide (0 < wordN K)) (ws.getD 3 []) with
      | error e => rw [hp] at h; cases h
      | ok p =>
       rw [hp] at h
       simp only at h
       cases hq : fracL (decide (1 < wordN K)) (ws.getD 4 []) with
       | error e => rw [hq] at h; cases h
       | ok q =>
        rw [hq] at h
        simp only at h
        split at h
        ·rename_i hmy
         cases h
         obtain ⟨a, b, c, fr, rfl, hfr⟩ := shape3 hn
         have hk : kindL c = some K := hk
         have hb : numB b = some M := hb
         have hm : nameB a = true := hm
         have hp : fracL (decide (0 < wordN K)) (fr.getD 0 []) = .ok p := hp
         have hq : fracL (decide (1 < wordN K)) (fr.getD 1 []) = .ok q := hq
         refine ⟨⟨fracL_nf hp, fracL_nf hq, hm, hmy⟩, ?_⟩
         have ek := kindL_back hk
         have eb := (numB_back hb).1
         have efr : fr = (([p, q] : List Rat).take (wordN K)).map ratText := by
          have hN := wordN_le K
          rcases (show wordN K = 0 ∨ wordN K = 1 ∨ wordN K = 2 by omega) with e | e | e
          ·rw [e] at hfr ⊢
           exact List.eq_nil_of_length_eq_zero hfr
          ·rw [e] at hfr hp ⊢
           have h1 := (fracL_back hp).1
           match fr, hfr, h1 with
           | [x], _, h1 => rw [show [p, q].take 1 = [p] from rfl, List.map_cons, List.map_nil, h1]; rfl
          ·rw [e] at hfr hp hq ⊢
           have h1 := (fracL_back hp).1
           have h2 := (fracL_back hq).1
           match fr, hfr, h1, h2 with
           | [x, y], _, h1, h2 => rw [show [p, q].take 2 = [p, q] from rfl, List.map_cons, List.map_cons, List.map_nil, h1, h2]; rfl
         rw [← hj]
         show (a ++ 32 :: (itoa M ++ 32 :: wordB K)) ++ tailB (([p, q] : List Rat).take (wordN K)) = a ++ 32 :: (b ++ 32 :: joinL 32 (c :: fr))
         rw [ek, eb, efr, joinL_tail]
         simp
        ·cases h
   ·rw [if_neg hn] at h; cases h
 ·rw [if_neg hl] at h; cases h
theorem fracL_code {b : Bool} {s : List UInt8} {c : Int} (h : fracL b s = .error c) : c = 5 ∨ c = 4 := by
 unfold fracL at h
 split at h
 ·split at h
  ·cases h; exact .inl rfl
  ·split at h
   ·cases h
   ·cases h; exact .inr rfl
 ·cases h
theorem readL_code {t : List UInt8} {c : Int} (h : readL t = .error c) : c = 5 ∨ c = 9 ∨ c = 4 ∨ c = 1 := by
 unfold readL at h
 split at h
 ·cases h; omega
 ·split at h
  ·split at h
   ·cases h; omega
   ·split at h
    ·split at h
     ·rename_i e he
      have := fracL_code he
      cases h
      omega
     ·split at h
      ·rename_i e he
       have := fracL_code he
       cases h
       omega
      ·split at h
       ·cases h
       ·cases h; omega
    ·cases h; omega
  ·cases h; omega
inductive EndL (ds : List PD) (rest : List UInt8) : Int → Prop
 | cut : rest ≠ [] → cutL 10 rest = none → EndL ds rest 5
 | line (t r : List UInt8) (c : Int) : cutL 10 rest = some (t, r) → readL t = .error c → EndL ds rest c
 | name (t r : List UInt8) (d : PD) : cutL 10 rest = some (t, r) → readL t = .ok d → bytesBefore (lastN ds) (nmL d) = false → EndL ds rest 5
 | full (t r : List UInt8) (d : PD) : cutL 10 rest = some (t, r) → readL t = .ok d → bytesBefore (lastN ds) (nmL d) = true → 64 ≤ ds.length → EndL ds rest 12
theorem bef_trans {a b c : List UInt8} (h1 : bytesBefore a b = true) (h2 : bytesBefore b c = true) : bytesBefore a c = true := by
 cases h : bytesBefore a c with
 | true => rfl
 | false =>
  rcases bef_total _ _ h with h3 | h3
  ·exact absurd (List.lt_trans (List.lt_trans (before_lt _ _ h3) (before_lt _ _ h1)) (before_lt _ _ h2)) (List.lt_irrefl _)
  ·subst h3
   exact absurd (List.lt_trans (before_lt _ _ h1) (before_lt _ _ h2)) (List.lt_irrefl _)
theorem ris_snoc {acc : List PD} {d : PD} (h : Ris acc) (hb : bytesBefore (lastN acc) (nmL d) = true) : Ris (acc ++ [d]) := by
 unfold Ris at *
 refine List.pairwise_append.2 ⟨h, List.pairwise_singleton _ _, fun a ha b hb' => ?_⟩
 rw [List.mem_singleton] at hb'
 subst hb'
 obtain ⟨x, y, rfl⟩ : ∃ x y, acc = x ++ [y] := ⟨acc.dropLast, acc.getLast (List.ne_nil_of_mem ha), (List.dropLast_concat_getLast _).symm⟩
 rw [lastN_snoc] at hb
 rcases List.mem_append.1 ha with hm | hm
 ·exact bef_trans ((List.pairwise_append.1 h).2.2 a hm y (by simp)) hb
 ·rw [List.mem_singleton] at hm
  subst hm
  exact hb
theorem parse_ends : ∀ (f : Nat) (acc : List PD) (s : List UInt8), s.length < f → Ris acc → acc.length ≤ 64 →
  (∃ es, parseL f acc s = .ok (acc ++ es) ∧ s = textB es ∧ (∀ d ∈ es, okPD d) ∧ Ris (acc ++ es) ∧ (acc ++ es).length ≤ 64) ∨
  (∃ es rest c, parseL f acc s = .error ((acc ++ es).length, c) ∧ s = textB es ++ rest ∧ (∀ d ∈ es, okPD d) ∧ Ris (acc ++ es) ∧ (acc ++ es).length ≤ 64 ∧ EndL (acc ++ es) rest c)
 | 0, _, _, h, _, _ => absurd h (Nat.not_lt_zero _)
 | f + 1, acc, s, hf, hr, hl => by
  rw [parseL]
  by_cases hs : s = []
  ·rw [if_pos hs]
   exact .inl ⟨[], by simp, by rw [hs]; rfl, by simp, by simpa using hr, by simpa using hl⟩
  ·rw [if_neg hs]
   have out : ∀ c, EndL acc s c → (∃ es rest c', (Except.error (acc.length, c) : Except (Nat × Int) (List PD)) = .error ((acc ++ es).length, c') ∧ s = textB es ++ rest ∧ (∀ d ∈ es, okPD d) ∧ Ris (acc ++ es) ∧ (acc ++ es).length ≤ 64 ∧ EndL (acc ++ es) rest c') := fun c hc =>
    ⟨[], s, c, by simp, by simp [textB], by simp, by simpa using hr, by simpa using hl, by simpa using hc⟩
   cases hc : cutL 10 s with
   | none => exact .inr (out 5 (.cut hs hc))
   | some p =>
    obtain ⟨t, r⟩ := p
    simp only
    cases hd : readL t with
    | error c => exact .inr (out c (.line t r c hc hd))
    | ok d =>
     simp only
     cases hb : bytesBefore (lastN acc) (nmL d) with
     | false =>
      rw [if_neg (by simp)]
      exact .inr (out 5 (.name t r d hc hd hb))
     | true =>
      rw [if_pos rfl]
      by_cases h64 : acc.length < 64
      ·rw [if_pos h64]
       obtain ⟨hok, hline⟩ := readL_back hd
       obtain ⟨e1, -⟩ := cutL_some hc
       have hlen := congrArg List.length e1
       rw [List.length_append, List.length_cons] at hlen
       have hts : ∀ es : List PD, textB (d :: es) = t ++ 10 :: textB es := fun es => by rw [textB_cons, hline]
       rcases parse_ends f (acc ++ [d]) r (by omega) (ris_snoc hr hb) (by simp; omega) with ⟨es, h1, h2, h3, h4, h5⟩ | ⟨es, rest, c, h1, h2, h3, h4, h5, h6⟩
       ·refine .inl ⟨d :: es, by simpa using h1, by rw [hts, ← h2]; exact e1, fun x hx => ?_, by simpa using h4, by simpa using h5⟩
        rcases List.mem_cons.1 hx with rfl | hx
        ·exact hok
        ·exact h3 x hx
       ·refine .inr ⟨d :: es, rest, c, by simpa using h1, by rw [hts, e1, h2]; simp, fun x hx => ?_, by simpa using h4, by simpa using h5, by simpa using h6⟩
        rcases List.mem_cons.1 hx with rfl | hx
        ·exact hok
        ·exact h3 x hx
      ·rw [if_neg h64]
       exact .inr (out 12 (.full t r d hc hd hb (by omega)))
end Go.Proofs.YtjelnmokcpoofaaGreatDoor
