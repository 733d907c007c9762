/-
  polestarref02.Whole, Long (of one), answered. polestarref02.Read: the fraction of a text, or none. polestarref02.Read whole; polestarref02.Parse. The reference's words (of a line). polestarref01.Int64, of a number that is not negative. The reference's number (of a word). The reference's read (of a line): lines that are refused. The reference's read (of a line): a fraction that is refused. The reference's read (of a line): the second fraction is refused. The reference's read (of a line): every line that is refused, but for May's word. The reference's read (of a line): a line that is read, or that May refuses.
-/
import Derived.Test.YtjelnmokcpoofaaGreatDoorTAN
import Derived.Test.YtjelnmokcpoofaaGreatDoorTAH
import Derived.Test.YtjelnmokcpoofaaGreatDoorTAJ
import Derived.Test.YtjelnmokcpoofaaGreatDoorTAK
import Derived.Test.YtjelnmokcpoofaaGreatDoorTAG
import Derived.Test.YtjelnmokcpoofaaGreatDoorTAE
import Derived.Test.YtjelnmokcpoofaaGreatDoorTAM
import Derived.Test.YtjelnmokcpoofaaGreatDoorTAF
import Derived.Test.YtjelnmokcpoofaaGreatDoorTAD
namespace Go.Proofs.YtjelnmokcpoofaaGreatDoor
set_option maxRecDepth 100000
open Go Go.RowKit Go.Proofs
set_option maxHeartbeats 1600000 in
theorem rwhole_f (v : Value) (X : Int) (w : World) (h : IntR w v X) :
  Calls Tryz.prog 135 #[v] w fun e w' => ∃ v', e = .returned v' ∧ FracR w' v' (X : Rat) ∧ Ext w w' := by
 have H := h
 obtain ⟨p, q, r, s, rfl⟩ := h.shape
 have ho := mK (fun w => rof_c 1 w (by omega) (by omega))
 obtain ⟨wb, hwb⟩ : ∃ wb, wb = (w.alloc (.cells #[.bool p, .slice q r s] 50)).alloc (.cells #[.bool false, .slice none 0 0, .bool false, .slice none 0 0] 52) := ⟨_, rfl⟩
 have hE : Ext w wb := by rw [hwb]; exact ((xR w).al _).al _
 have c0 : ∀ W, Ext wb W → W.cell? ⟨w.heap.size, 0, none⟩ = some (.bool p) := fun W e => e.cell (by rw [hwb]; go_simp)
 have c1 : ∀ W, Ext wb W → W.cell? ⟨w.heap.size, 1, none⟩ = some (.slice q r s) := fun W e => e.cell (by rw [hwb]; go_simp)
 have hB := mK (fun W (e : Ext wb W) => (e.blk (show wb.heap[w.heap.size + 1]? = some (.cells #[.bool false, .slice none 0 0, .bool false, .slice none 0 0] 52 (0, 0)) by rw [hwb]; exact heap_at _ _ _ (by simp))))
 replace H := mK (H.ext hE)
 replace hE := mK hE
 clear h
 go_enter Tryz.func135, Tryz.ntmps135
 go_wp2_with fail
 rw [← hwb]
 clear hwb
 apply region_ext [.val (.agg #[.bool p, .slice q r s]), .pred (fun W v => IntR W v 1)] (by kernel_rfl) (stable_vals _ (st_intRG _ trivial))
 refine ⟨fun W hW _ => by have := c0 W hW; have := c1 W hW; go_simp; first | exact ⟨xR _, rfl⟩ | exact xR _, ?_⟩
 refine ⟨fun W hW hF => ?g1, fun v1 => fun W hW hF => ?fin⟩
 case g1 =>
  clear hF
  go_simp
  refine (ho.out W).mono ?_
  rintro e w' ⟨v, rfl, h1, h2⟩
  exact ⟨v, rfl, h2, h1⟩
 case fin =>
  have d1 : IntR W v1 1 := hF.1 rfl
  obtain ⟨y1, y2, y3, y4, rfl⟩ := d1.shape
  have HX : IntR W (.agg #[.bool p, .slice q r s]) X := H.out.ext hW
  have hBW := hB.out W hW
  have R0 : FracR W (.agg #[.bool p, .slice q r s, .bool y1, .slice y2 y3 y4]) (X : Rat) := ⟨_, _, _, _, _, _, _, _, rfl, by rw [Rat.num_intCast]; exact HX, by rw [Rat.den_intCast]; exact d1⟩
  have R := R0.flat hBW (by simp [flatV]) #[.bool p, .slice q r s, .bool y1, .slice y2 y3 y4]
  have FE := (hE.out.trans hW).row (show w.heap.size ≤ w.heap.size + 1 by omega) #[.bool p, .slice q r s, .bool y1, .slice y2 y3 y4]
  replace R := mK R
  replace FE := mK FE
  clear hF c0 c1 hW HX d1 R0
  go_simp
  go_wp2_with (refine wpList_store_row rfl 52 (.tmp 2) (.tmp 5) rfl (w.heap.size + 1) #[.bool p, .slice q r s, .bool y1, .slice y2 y3 y4] rfl rfl 52 _ hBW (by kernel_rfl) rfl (by kernel_rfl) ?_)
  exact bodyPost_ret (results_cell_row rfl _ _ (w.heap.size + 1) 52 #[.bool p, .slice q r s, .bool y1, .slice y2 y3 y4] (0, 0) _ rfl (setRow_heap _ _ _ _ _ _ hBW) Tryz.underlying52 rfl (by kernel_rfl)) rfl ⟨_, rfl, R.out, FE.out⟩
theorem rlongI_c (b : Bool) (a : Option Addr) (n c : Nat) (w : World) (hn : n ≤ 4294967296) :
  Calls Tryz.prog 191 #[.agg #[.bool b, .slice a n c]] w fun e w' => e = .returned (.bool (decide (2048 < n))) ∧ Ext w w' := by
 by_cases h : 2048 < n
 ·rw [decide_eq_true h]
  have h' : (2048 : Int) < n := by omega
  go_enter Tryz.func191, Tryz.ntmps191
  go_wp2_with fail
  go_ret
  exact ⟨by first | rfl | simp [h], (xR w).al _⟩
 ·rw [decide_eq_false h]
  have h' : ¬ (2048 : Int) < n := by omega
  go_enter Tryz.func191, Tryz.ntmps191
  go_wp2_with fail
  go_ret
  exact ⟨by first | rfl | simp [h], (xR w).al _⟩
set_option maxHeartbeats 1600000 in
theorem rlong1_f (g cap n1 c1 n2 c2 T : Nat) (b1 b2 : Bool) (a1 a2 : Option Addr) (w : World) (h1 : n1 ≤ 4294967296) (h2 : n2 ≤ 4294967296)
  (hz : w.heap[g]? = some (.cells #[.bool b1, .slice a1 n1 c1, .bool b2, .slice a2 n2 c2] T (0, 0))) :
  Calls Tryz.prog 139 #[.slice (some ⟨g, 0, none⟩) 1 cap] w fun e w' => e = .returned (.bool (decide (2048 < max n1 n2))) ∧ Ext w w' := by
 have L1 := mK (fun W => rlongI_c b1 a1 n1 c1 W h1)
 have L2 := mK (fun W => rlongI_c b2 a2 n2 c2 W h2)
 obtain ⟨wo, hwo⟩ : ∃ wo : World, wo = w := ⟨_, rfl⟩
 obtain ⟨R, hR⟩ : ∃ R, R = decide (2048 < max n1 n2) := ⟨_, rfl⟩
 rw [← hR]
 replace hR := mK hR
 replace hz := mK hz
 go_enter Tryz.func139, Tryz.ntmps139
 go_wp2_with fail
 go_loopw [3] (fun i wr => ∃ k : Nat, k ≤ 1 ∧ i = .int .i64 k ∧ Ext wo wr ∧ (k = 1 → n1 ≤ 2048 ∧ n2 ≤ 2048)) (fun i _ => 1 - (intOf i).toNat)
 case atStart => exact ⟨0, Nat.zero_le _, rfl, hwo ▸ xR _, fun h => by omega⟩
 case round =>
  obtain ⟨k, hk, rfl, hE, hl⟩ := hrel
  obtain ⟨w2, rfl⟩ : ∃ w2 : World, w2 = wr := ⟨_, rfl⟩
  by_cases hk0 : k = 0
  ·subst hk0
   have k4 := row4_cells ((hwo ▸ hE).blk hz.out)
   have b3 : ∀ W, Ext w2 W → W.cell? ⟨g, 2, none⟩ = some (.bool b2) := fun W e => e.cell k4.2.2.1
   have b4 : ∀ W, Ext w2 W → W.cell? ⟨g, 3, none⟩ = some (.slice a2 n2 c2) := fun W e => e.cell k4.2.2.2
   obtain ⟨k1, k2, -, -⟩ := k4
   replace b3 := mK b3
   replace b4 := mK b4
   replace hE := mK hE
   clear hl
   by_cases g1 : 2048 < n1
   ·rw [decide_eq_true g1] at L1
    obtain rfl : R = true := by rw [hR.out]; exact decide_eq_true (by omega)
    go_wp2_with (go_at_call 191; refine (L1.out _).mono ?_; rintro e w3 ⟨rfl, h3⟩; replace h3 := mK h3)
    go_ret
    exact ⟨rfl, hwo ▸ (hE.out.trans h3.out)⟩
   ·rw [decide_eq_false g1] at L1
    have tok : Tok 0 := .mk _
    by_cases g2 : 2048 < n2
    ·rw [decide_eq_true g2] at L2
     obtain rfl : R = true := by rw [hR.out]; exact decide_eq_true (by omega)
     go_wp2_with (first
      | (replace tok : Tok 1 := nxT 0 tok; go_at_call 191; refine (L1.out _).mono ?_; rintro e w3 ⟨rfl, h3⟩; (have y3 := b3.out w3 h3); (have y4 := b4.out w3 h3); replace h3 := mK h3)
      | (replace tok : Tok 2 := nxT 1 tok; go_at_call 191; refine (L2.out _).mono ?_; rintro e w4 ⟨rfl, h4⟩; replace h4 := mK h4))
     go_ret
     exact ⟨rfl, hwo ▸ ((hE.out.trans h3.out).trans h4.out)⟩
    ·rw [decide_eq_false g2] at L2
     go_wp2_with (first
      | (replace tok : Tok 1 := nxT 0 tok; go_at_call 191; refine (L1.out _).mono ?_; rintro e w3 ⟨rfl, h3⟩; (have y3 := b3.out w3 h3); (have y4 := b4.out w3 h3); replace h3 := mK h3)
      | (replace tok : Tok 2 := nxT 1 tok; go_at_call 191; refine (L2.out _).mono ?_; rintro e w4 ⟨rfl, h4⟩; replace h4 := mK h4))
     go_roundw
     case measure => simp [intOf]
     case rel => exact ⟨1, by omega, rfl, (hE.out.trans h3.out).trans h4.out, fun _ => ⟨by omega, by omega⟩⟩
  ·obtain rfl : k = 1 := by omega
   obtain ⟨l1, l2⟩ := hl rfl
   obtain rfl : R = false := by rw [hR.out]; exact decide_eq_false (by omega)
   replace hE := mK hE
   go_wp2_with fail
   go_ret
   exact ⟨rfl, hwo ▸ hE.out⟩
set_option maxHeartbeats 1600000 in
theorem ranswered_f (v : Value) (x : Rat) (w : World) (hx : nf x ≤ 268435456) (h : FracR w v x) :
  Calls Tryz.prog 83 #[v] w fun e w' => ∃ f : FV, e = .returned (.tuple #[.agg #[.bool f.b1, .slice f.a1 f.n1 f.c1, .bool f.b2, .slice f.a2 f.n2 f.c2], .int .i64 (capE x)]) ∧ Ext w w' ∧ (nf x ≤ 2048 → FracR w' (.agg #[.bool f.b1, .slice f.a1 f.n1 f.c1, .bool f.b2, .slice f.a2 f.n2 f.c2]) x) := by
 have H := h
 obtain ⟨p1, q1, r1, s1, p2, q2, r2, s2, rfl⟩ := h.shape
 obtain ⟨l1, l2⟩ := frac_lens h
 have hnf : nf x = max r1 r2 := by rw [l1, l2]; rfl
 obtain ⟨w3, hw3⟩ : ∃ w3, w3 = ((w.alloc (.cells #[.bool p1, .slice q1 r1 s1, .bool p2, .slice q2 r2 s2] 52)).alloc (.cells #[.bool false, .slice none 0 0, .bool false, .slice none 0 0] 52)).alloc (.cells #[.bool p1, .slice q1 r1 s1, .bool p2, .slice q2 r2 s2] 52) := ⟨_, rfl⟩
 have hE : Ext w w3 := by rw [hw3]; exact (((xR w).al _).al _).al _
 have z0 : w3.heap[w.heap.size]? = some (.cells #[.bool p1, .slice q1 r1 s1, .bool p2, .slice q2 r2 s2] 52 (0, 0)) := by rw [hw3]; exact (heap_alloc_old _ _ (by simp; omega)).trans ((heap_alloc_old _ _ (by simp)).trans (heap_alloc_new _ _))
 have z1 : w3.heap[w.heap.size + 1]? = some (.cells #[.bool false, .slice none 0 0, .bool false, .slice none 0 0] 52 (0, 0)) := by rw [hw3]; exact (heap_alloc_old _ _ (by simp)).trans (heap_at _ _ _ (by simp))
 have z2 : w3.heap[w.heap.size + 1 + 1]? = some (.cells #[.bool p1, .slice q1 r1 s1, .bool p2, .slice q2 r2 s2] 52 (0, 0)) := by rw [hw3]; exact heap_at _ _ _ (by simp)
 have LG := rlong1_f (w.heap.size + 1 + 1) 1 r1 s1 r2 s2 _ p1 p2 q1 q2 w3 (by omega) (by omega) z2
 rw [← hnf] at LG
 replace H := mK (H.ext hE)
 replace LG := mK LG
 replace hE := mK hE
 replace z0 := mK z0
 replace z1 := mK z1
 clear h z2 l1 l2 hnf
 by_cases hl : nf x ≤ 2048
 ·have hcp : capE x = 0 := by unfold capE; rw [if_pos hl]
  rw [decide_eq_false (show ¬ 2048 < nf x by omega)] at LG
  go_enter Tryz.func83, Tryz.ntmps83
  go_wp2_with fail
  rw [← hw3]
  clear hw3
  replace hcp := mK hcp
  refine LG.out.mono ?_
  rintro e w4 ⟨rfl, hE4⟩
  have b0 := row4_cells (hE4.blk z0.out)
  have z1' := hE4.blk z1.out
  have R := (H.out.ext hE4).flat z1' (by simp [flatV]) #[.bool p1, .slice q1 r1 s1, .bool p2, .slice q2 r2 s2]
  have FE := (hE.out.trans hE4).row (show w.heap.size ≤ w.heap.size + 1 by omega) #[.bool p1, .slice q1 r1 s1, .bool p2, .slice q2 r2 s2]
  replace R := mK R
  replace FE := mK FE
  clear hE4 LG
  go_wp2_with (refine wpList_store_row rfl 52 (.tmp 2) (.tmp 8) rfl (w.heap.size + 1) #[.bool p1, .slice q1 r1 s1, .bool p2, .slice q2 r2 s2] rfl rfl 52 _ z1' (by kernel_rfl) rfl (by kernel_rfl) ?_)
  refine bodyPost_ret (results_row_tmp rfl _ _ (w.heap.size + 1) 52 #[.bool p1, .slice q1 r1 s1, .bool p2, .slice q2 r2 s2] _ _ rfl rfl (setRow_heap _ _ _ _ _ _ z1') Tryz.underlying52 rfl (by kernel_rfl)) rfl ?_
  exact ⟨⟨p1, q1, r1, s1, p2, q2, r2, s2⟩, by rw [hcp.out]; rfl, FE.out, fun _ => R.out⟩
 ·have hcp : capE x = 4 := by unfold capE; rw [if_neg hl]
  rw [decide_eq_true (show 2048 < nf x by omega)] at LG
  go_enter Tryz.func83, Tryz.ntmps83
  go_wp2_with fail
  rw [← hw3]
  clear hw3
  replace hcp := mK hcp
  refine LG.out.mono ?_
  rintro e w4 ⟨rfl, hE4⟩
  have z1' := hE4.blk z1.out
  have FE := (hE.out.trans hE4).row (show w.heap.size ≤ w.heap.size + 1 by omega) #[.bool false, .slice none 0 0, .bool false, .slice none 0 0]
  replace FE := mK FE
  clear hE4 LG
  go_wp2_with (refine wpList_store_row rfl 52 (.tmp 2) (.tmp 7) rfl (w.heap.size + 1) #[.bool false, .slice none 0 0, .bool false, .slice none 0 0] rfl rfl 52 _ z1' (by kernel_rfl) rfl (by kernel_rfl) ?_)
  refine bodyPost_ret (results_row_tmp rfl _ _ (w.heap.size + 1) 52 #[.bool false, .slice none 0 0, .bool false, .slice none 0 0] _ _ rfl rfl (setRow_heap _ _ _ _ _ _ z1') Tryz.underlying52 rfl (by kernel_rfl)) rfl ?_
  exact ⟨⟨false, none, 0, 0, false, none, 0, 0⟩, by rw [hcp.out]; rfl, FE.out, fun h => absurd h hl⟩
def RFQ (w : World) (o : Option Rat) (e : Ending) (w' : World) : Prop :=
 ∃ (f : FV) (b : Bool), e = .returned (.tuple #[.agg #[.bool f.b1, .slice f.a1 f.n1 f.c1, .bool f.b2, .slice f.a2 f.n2 f.c2], .bool b]) ∧ Ext w w' ∧ (o = none ∧ b = false ∨ ∃ x, o = some x ∧ b = true ∧ FracR w' (.agg #[.bool f.b1, .slice f.a1 f.n1 f.c1, .bool f.b2, .slice f.a2 f.n2 f.c2]) x)
def Scan (s : ByteArray) (A : Nat) (w1 : World) (t4 t5 : Value) (wr : World) : Prop :=
 ∃ k : Nat, k ≤ s.size ∧ t5 = .int .i64 k ∧ (t4 = .int .i64 s.size ∧ k ≤ A ∨ A < s.size ∧ t4 = .int .i64 A) ∧ Ext w1 wr
theorem FracR.str {g : Nat} {new old : Array Value} {T : TypeId} {w W : World} {v : Value} {q : Rat} (h : FracR w v q) (hz : w.heap[g]? = some (.cells old T (0, 0))) (ho : old.all flatV = true) (hW : StR g new T w W) : FracR W v q := by
 rcases hW.row with e | e | e
 ·refine h.ext ⟨hW.os, hW.tape, hW.output, hW.size, fun k hk => ?_⟩
  by_cases hk' : k = g
  ·rw [hk']
   exact e
  ·exact hW.block k hk hk'
 ·refine (h.flat hz ho new).ext ⟨hW.os, hW.tape, hW.output, by simpa using hW.size, fun k hk => ?_⟩
  by_cases hk' : k = g
  ·rw [hk', e, setRow_heap _ _ _ _ _ _ hz]
  ·rw [setRow_other _ _ _ _ hk']
   exact hW.block k (by simpa using hk) hk'
 ·have := (Array.getElem?_eq_some_iff.1 hz).1
  omega
set_option maxHeartbeats 6400000 in
theorem rratRead_miss (s : ByteArray) (w : World) (hs : s.size ≤ 65536) (hc : cutL 47 s.data.toList = none) : Calls Tryz.prog 82 #[.string s] w (RFQ w (readF s.data.toList)) := by
 obtain ⟨A, hA⟩ : ∃ A, A = s.size := ⟨_, rfl⟩
 have hno : ∀ k (h : k < s.size), s[k] ≠ 47 := fun k h e => by
  have hk : k < s.data.toList.length := by rw [list_size]; exact h
  have hb := byte_at (D := s) rfl h hk
  exact cutL_none hc (by rw [← e, ← hb]; exact List.getElem_mem hk)
 have hRF := readF_miss hc
 rw [hRF]
 have KR := mK (fun W => rread_c s W hs)
 obtain ⟨o, ho'⟩ : ∃ o, o = readI s.data.toList := ⟨_, rfl⟩
 rw [← ho'] at KR ⊢
 obtain ⟨w1, hw1⟩ : ∃ w1, w1 = w.alloc (.cells #[.bool false, .slice none 0 0, .bool false, .slice none 0 0] 52) := ⟨_, rfl⟩
 have hE1 := mK (show Ext w w1 by rw [hw1]; exact (xR w).al _)
 have z1 := mK (show w1.heap[w.heap.size]? = some (.cells #[.bool false, .slice none 0 0, .bool false, .slice none 0 0] 52 (0, 0)) by rw [hw1]; exact heap_alloc_new _ _)
 replace hw1 := mK hw1
 have st : Scan s A w1 (.int .i64 s.size) (.int .i64 0) w1 := ⟨0, Nat.zero_le _, rfl, .inl ⟨rfl, Nat.zero_le _⟩, xR _⟩
 replace st := mK st
 replace hno := mK hno
 clear hRF hc ho'
 replace hA := mK hA
 go_enter Tryz.func82, Tryz.ntmps82
 go_wp2_with fail
 rw [← hw1.out]
 go_loopw [4, 5] (fun t4 t5 wr => Scan s A w1 t4 t5 wr) (fun _ t5 _ => s.size - (intOf t5).toNat)
 case atStart => exact st.out
 case round =>
  clear st
  obtain ⟨k, hk, rfl, hcase, hE⟩ := hrel
  obtain ⟨w2, rfl⟩ : ∃ w2 : World, w2 = wr := ⟨_, rfl⟩
  have z2 := mK (hE.blk z1.out)
  replace hE := mK hE
  obtain ⟨rfl, -⟩ : u4 = .int .i64 s.size ∧ True := by
   rcases hcase with ⟨h1, h2⟩ | ⟨h1, h2⟩
   ·exact ⟨h1, trivial⟩
   ·have := hA.out; omega
  clear hcase
  by_cases hlt : k < s.size
  ·have hb := hno.out k hlt
   have hb1 : (s[k].toNat == 47) = false := by
    rw [beq_eq_false_iff_ne]
    intro e
    exact hb (UInt8.toNat_inj.1 e)
   have hb2 : ((s[k].toNat : Int) == 47) = false := by
    rw [beq_eq_false_iff_ne]
    intro e
    rw [beq_eq_false_iff_ne] at hb1
    omega
   clear hb
   have hnew : Scan s A w1 (.int .i64 s.size) (.int .i64 ((k + 1 : Nat) : Int)) w2 := ⟨k + 1, by omega, rfl, .inl ⟨rfl, by have := hA.out; omega⟩, hE.out⟩
   replace hnew := mK hnew
   go_wp2_with fail
   go_roundw
   case measure => simp [intOf]; omega
   case rel => exact hnew.out
  ·obtain rfl : k = s.size := by omega
   have tok : Tok 0 := .mk _
   cases o with
   | none =>
    go_wp2_with (first
     | (replace tok : Tok 1 := nxT 0 tok; go_at_call 79; refine (KR.out w2).mono ?_; rintro e w3 ⟨v, b, X, rfl, ho, hv, hx⟩; (obtain rfl : b = false := by (rcases ho with ⟨h, -⟩ | ⟨-, h, -⟩; cases h; exact h)); (obtain ⟨nb, na, nn, nc, rfl⟩ := hv.shape); (have hx4 := hx.al (.cells #[.bool nb, .slice na nn nc] 50)); (have z4 := mK (hx4.blk z2.out)); (have E4 := mK ((hE1.out.trans hE.out).trans hx4)); clear hx hx4 hv ho)
     | (replace tok : Tok 2 := nxT 1 tok; refine wpList_store_row rfl 52 (.tmp 2) (.tmp 38) rfl w.heap.size #[.bool false, .slice none 0 0, .bool false, .slice none 0 0] rfl rfl 52 _ z4.out (by kernel_rfl) rfl (by kernel_rfl) ?_))
    refine bodyPost_ret (results_row_tmp rfl _ _ w.heap.size 52 #[.bool false, .slice none 0 0, .bool false, .slice none 0 0] _ _ rfl rfl (setRow_heap _ _ _ _ _ _ z4.out) Tryz.underlying52 rfl (by kernel_rfl)) rfl ?_
    exact ⟨⟨false, none, 0, 0, false, none, 0, 0⟩, false, rfl, E4.out.row (nR _) _, .inl ⟨rfl, rfl⟩⟩
   | some X =>
    go_wp2_with (first
     | (replace tok : Tok 1 := nxT 0 tok; go_at_call 79; refine (KR.out w2).mono ?_; rintro e w3 ⟨v, b, X', rfl, ho, hv, hx⟩; (obtain ⟨rfl, rfl⟩ : X = X' ∧ b = true := by (rcases ho with ⟨h1, h2⟩ | ⟨h1, h2, h3⟩; exact ⟨Option.some.inj h1, h2⟩; cases h1)); (obtain ⟨nb, na, nn, nc, rfl⟩ := hv.shape); (obtain ⟨w4, hw4⟩ : ∃ w4, w4 = w3.alloc (.cells #[.bool nb, .slice na nn nc] 50) := ⟨_, rfl⟩); (have hx4 : Ext w3 w4 := by rw [hw4]; exact (xR w3).al _); (have z4 := mK ((hx.trans hx4).blk z2.out)); (have E4 := mK (((hE1.out.trans hE.out).trans hx).trans hx4)); (have hv4 := mK (hv.ext hx4)); replace hw4 := mK hw4; clear hx hx4 hv ho)
     | (replace tok : Tok 2 := nxT 1 tok; go_at_call 135; rw [← hw4.out]; refine (rwhole_f _ X w4 hv4.out).mono ?_; rintro e w5 ⟨v, rfl, hf, hx5⟩; (obtain ⟨p1, q1, r1, s1, p2, q2, r2, s2, rfl⟩ := hf.shape); (have z5 := mK (hx5.blk z4.out)); (have E5 := mK (E4.out.trans hx5)); replace hf := mK hf; clear hx5)
     | (replace tok : Tok 3 := nxT 2 tok; refine wpList_store_row rfl 52 (.tmp 2) (.tmp 44) rfl w.heap.size #[.bool p1, .slice q1 r1 s1, .bool p2, .slice q2 r2 s2] rfl rfl 52 _ z5.out (by kernel_rfl) rfl (by kernel_rfl) ?_))
    refine bodyPost_ret (results_row_tmp rfl _ _ w.heap.size 52 #[.bool p1, .slice q1 r1 s1, .bool p2, .slice q2 r2 s2] _ _ rfl rfl (setRow_heap _ _ _ _ _ _ z5.out) Tryz.underlying52 rfl (by kernel_rfl)) rfl ?_
    exact ⟨⟨p1, q1, r1, s1, p2, q2, r2, s2⟩, true, rfl, E5.out.row (nR _) _, .inr ⟨_, rfl, rfl, hf.out.flat z5.out (by simp [flatV]) _⟩⟩
set_option maxHeartbeats 6400000 in
theorem rratRead_a
 (s : ByteArray) (w : World) (A : Nat) (xb yb : ByteArray) (hs : s.size ≤ 65536) (hAs : A < s.size) (hno' : ∀ k (h : k < A), s[k]'(by omega) ≠ 47) (hyes' : s[A] = 47) (hX0 : s.extract 0 A = xb) (hY0 : s.extract (A + 1) s.size = yb) (hxs : xb.size ≤ 65536) (hys : yb.size ≤ 65536)
 (hR : readI xb.data.toList = none) :
  Calls Tryz.prog 82 #[.string s] w (RFQ w none) := by
 have KR := mK (fun W => rread_c xb W hxs)
 have KS := mK (fun W => rread_c yb W hys)
 have hno := mK hno'
 have hyes := mK hyes'
 clear hno' hyes'
 obtain ⟨w1, hw1⟩ : ∃ w1, w1 = w.alloc (.cells #[.bool false, .slice none 0 0, .bool false, .slice none 0 0] 52) := ⟨_, rfl⟩
 have hE1 := mK (show Ext w w1 by rw [hw1]; exact (xR w).al _)
 have z1 := mK (show w1.heap[w.heap.size]? = some (.cells #[.bool false, .slice none 0 0, .bool false, .slice none 0 0] 52 (0, 0)) by rw [hw1]; exact heap_alloc_new _ _)
 replace hw1 := mK hw1
 have st : Scan s A w1 (.int .i64 s.size) (.int .i64 0) w1 := ⟨0, Nat.zero_le _, rfl, .inl ⟨rfl, Nat.zero_le _⟩, xR _⟩
 replace st := mK st
 rw [hR] at KR
 clear hR KS hxs hys
 have _hY0 := hY0
 clear hY0 _hY0
 go_enter Tryz.func82, Tryz.ntmps82
 go_wp2_with fail
 rw [← hw1.out]
 go_loopw [4, 5] (fun t4 t5 wr => Scan s A w1 t4 t5 wr) (fun _ t5 _ => s.size - (intOf t5).toNat)
 case atStart => exact st.out
 case round =>
  clear st
  obtain ⟨k, hk, rfl, hcase, hE⟩ := hrel
  obtain ⟨w2, rfl⟩ : ∃ w2 : World, w2 = wr := ⟨_, rfl⟩
  have z2 := mK (hE.blk z1.out)
  replace hE := mK hE
  rcases hcase with ⟨rfl, hkA⟩ | ⟨-, rfl⟩
  ·have hlt : k < s.size := by omega
   by_cases hkA' : k < A
   ·have hb := hno.out k hkA'
    have hb1 : (s[k].toNat == 47) = false := by
     rw [beq_eq_false_iff_ne]
     intro e
     exact hb (UInt8.toNat_inj.1 e)
    have hb2 : ((s[k].toNat : Int) == 47) = false := by
     rw [beq_eq_false_iff_ne]
     intro e
     rw [beq_eq_false_iff_ne] at hb1
     omega
    clear hb
    have hnew : Scan s A w1 (.int .i64 s.size) (.int .i64 ((k + 1 : Nat) : Int)) w2 := ⟨k + 1, by omega, rfl, .inl ⟨rfl, by omega⟩, hE.out⟩
    replace hnew := mK hnew
    go_wp2_with fail
    go_roundw
    case measure => simp [intOf]; omega
    case rel => exact hnew.out
   ·obtain rfl : k = A := by omega
    have hb1 : (s[k].toNat == 47) = true := by rw [hyes.out]; rfl
    have hb2 : ((s[k].toNat : Int) == 47) = true := by rw [hyes.out]; rfl
    have hnew : Scan s k w1 (.int .i64 k) (.int .i64 ((k + 1 : Nat) : Int)) w2 := ⟨k + 1, by omega, rfl, .inr ⟨hAs, rfl⟩, hE.out⟩
    replace hnew := mK hnew
    go_wp2_with fail
    go_roundw
    case measure => simp [intOf]; omega
    case rel => exact hnew.out
  ·have hAn : ((A : Int) == (s.size : Int)) = false := by rw [beq_eq_false_iff_ne]; omega
   have tok : Tok 0 := .mk _
   by_cases hlt : k < s.size
   ·go_wp2_with (first
     | (replace tok : Tok 1 := nxT 0 tok; go_at_call 79; refine (KR.out w2).mono ?_; rintro e w3 ⟨v, b, X, rfl, ho, hv, hx⟩; (obtain rfl : b = false := by (rcases ho with ⟨h, -⟩ | ⟨-, h, -⟩; cases h; exact h)); (obtain ⟨nb, na, nn, nc, rfl⟩ := hv.shape); (have hx4 := hx.al (.cells #[.bool nb, .slice na nn nc] 50)); (have z4 := mK (hx4.blk z2.out)); (have E4 := mK ((hE1.out.trans hE.out).trans hx4)); clear hx hx4 hv ho)
     | (replace tok : Tok 2 := nxT 1 tok; refine wpList_store_row rfl 52 (.tmp 2) (.tmp 38) rfl w.heap.size #[.bool false, .slice none 0 0, .bool false, .slice none 0 0] rfl rfl 52 _ z4.out (by kernel_rfl) rfl (by kernel_rfl) ?_))
    refine bodyPost_ret (results_row_tmp rfl _ _ w.heap.size 52 #[.bool false, .slice none 0 0, .bool false, .slice none 0 0] _ _ rfl rfl (setRow_heap _ _ _ _ _ _ z4.out) Tryz.underlying52 rfl (by kernel_rfl)) rfl ?_
    exact ⟨⟨false, none, 0, 0, false, none, 0, 0⟩, false, rfl, E4.out.row (nR _) _, .inl ⟨rfl, rfl⟩⟩
   ·obtain rfl : k = s.size := by omega
    go_wp2_with (first
     | (replace tok : Tok 1 := nxT 0 tok; go_at_call 79; refine (KR.out w2).mono ?_; rintro e w3 ⟨v, b, X, rfl, ho, hv, hx⟩; (obtain rfl : b = false := by (rcases ho with ⟨h, -⟩ | ⟨-, h, -⟩; cases h; exact h)); (obtain ⟨nb, na, nn, nc, rfl⟩ := hv.shape); (have hx4 := hx.al (.cells #[.bool nb, .slice na nn nc] 50)); (have z4 := mK (hx4.blk z2.out)); (have E4 := mK ((hE1.out.trans hE.out).trans hx4)); clear hx hx4 hv ho)
     | (replace tok : Tok 2 := nxT 1 tok; refine wpList_store_row rfl 52 (.tmp 2) (.tmp 38) rfl w.heap.size #[.bool false, .slice none 0 0, .bool false, .slice none 0 0] rfl rfl 52 _ z4.out (by kernel_rfl) rfl (by kernel_rfl) ?_))
    refine bodyPost_ret (results_row_tmp rfl _ _ w.heap.size 52 #[.bool false, .slice none 0 0, .bool false, .slice none 0 0] _ _ rfl rfl (setRow_heap _ _ _ _ _ _ z4.out) Tryz.underlying52 rfl (by kernel_rfl)) rfl ?_
    exact ⟨⟨false, none, 0, 0, false, none, 0, 0⟩, false, rfl, E4.out.row (nR _) _, .inl ⟨rfl, rfl⟩⟩
set_option maxHeartbeats 6400000 in
theorem rratRead_b
 (s : ByteArray) (w : World) (A : Nat) (xb yb : ByteArray) (hs : s.size ≤ 65536) (hAs : A < s.size) (hno' : ∀ k (h : k < A), s[k]'(by omega) ≠ 47) (hyes' : s[A] = 47) (hX0 : s.extract 0 A = xb) (hY0 : s.extract (A + 1) s.size = yb) (hxs : xb.size ≤ 65536) (hys : yb.size ≤ 65536)
 (X : Int) (hR : readI xb.data.toList = some X) (hR2 : readI yb.data.toList = none) :
  Calls Tryz.prog 82 #[.string s] w (RFQ w none) := by
 have KR := mK (fun W => rread_c xb W hxs)
 have KS := mK (fun W => rread_c yb W hys)
 have hno := mK hno'
 have hyes := mK hyes'
 clear hno' hyes'
 obtain ⟨w1, hw1⟩ : ∃ w1, w1 = w.alloc (.cells #[.bool false, .slice none 0 0, .bool false, .slice none 0 0] 52) := ⟨_, rfl⟩
 have hE1 := mK (show Ext w w1 by rw [hw1]; exact (xR w).al _)
 have z1 := mK (show w1.heap[w.heap.size]? = some (.cells #[.bool false, .slice none 0 0, .bool false, .slice none 0 0] 52 (0, 0)) by rw [hw1]; exact heap_alloc_new _ _)
 replace hw1 := mK hw1
 have st : Scan s A w1 (.int .i64 s.size) (.int .i64 0) w1 := ⟨0, Nat.zero_le _, rfl, .inl ⟨rfl, Nat.zero_le _⟩, xR _⟩
 replace st := mK st
 rw [hR] at KR
 rw [hR2] at KS
 clear hR hR2 hxs hys
 go_enter Tryz.func82, Tryz.ntmps82
 go_wp2_with fail
 rw [← hw1.out]
 go_loopw [4, 5] (fun t4 t5 wr => Scan s A w1 t4 t5 wr) (fun _ t5 _ => s.size - (intOf t5).toNat)
 case atStart => exact st.out
 case round =>
  clear st
  obtain ⟨k, hk, rfl, hcase, hE⟩ := hrel
  obtain ⟨w2, rfl⟩ : ∃ w2 : World, w2 = wr := ⟨_, rfl⟩
  have z2 := mK (hE.blk z1.out)
  replace hE := mK hE
  rcases hcase with ⟨rfl, hkA⟩ | ⟨-, rfl⟩
  ·have hlt : k < s.size := by omega
   by_cases hkA' : k < A
   ·have hb := hno.out k hkA'
    have hb1 : (s[k].toNat == 47) = false := by
     rw [beq_eq_false_iff_ne]
     intro e
     exact hb (UInt8.toNat_inj.1 e)
    have hb2 : ((s[k].toNat : Int) == 47) = false := by
     rw [beq_eq_false_iff_ne]
     intro e
     rw [beq_eq_false_iff_ne] at hb1
     omega
    clear hb
    have hnew : Scan s A w1 (.int .i64 s.size) (.int .i64 ((k + 1 : Nat) : Int)) w2 := ⟨k + 1, by omega, rfl, .inl ⟨rfl, by omega⟩, hE.out⟩
    replace hnew := mK hnew
    go_wp2_with fail
    go_roundw
    case measure => simp [intOf]; omega
    case rel => exact hnew.out
   ·obtain rfl : k = A := by omega
    have hb1 : (s[k].toNat == 47) = true := by rw [hyes.out]; rfl
    have hb2 : ((s[k].toNat : Int) == 47) = true := by rw [hyes.out]; rfl
    have hnew : Scan s k w1 (.int .i64 k) (.int .i64 ((k + 1 : Nat) : Int)) w2 := ⟨k + 1, by omega, rfl, .inr ⟨hAs, rfl⟩, hE.out⟩
    replace hnew := mK hnew
    go_wp2_with fail
    go_roundw
    case measure => simp [intOf]; omega
    case rel => exact hnew.out
  ·have hAn : ((A : Int) == (s.size : Int)) = false := by rw [beq_eq_false_iff_ne]; omega
   have tok : Tok 0 := .mk _
   by_cases hlt : k < s.size
   ·go_wp2_with (first
     | (replace tok : Tok 1 := nxT 0 tok; go_at_call 79; refine (KR.out w2).mono ?_; rintro e w3 ⟨v, b, X', rfl, ho, hv, hx⟩; (obtain ⟨rfl, rfl⟩ : X = X' ∧ b = true := by (rcases ho with ⟨h1, h2⟩ | ⟨h1, h2, h3⟩; exact ⟨Option.some.inj h1, h2⟩; cases h1)); (obtain ⟨nb, na, nn, nc, rfl⟩ := hv.shape); (obtain ⟨w4, hw4⟩ : ∃ w4, w4 = w3.alloc (.cells #[.bool nb, .slice na nn nc] 50) := ⟨_, rfl⟩); (have hx4 : Ext w3 w4 := by rw [hw4]; exact (xR w3).al _); (have y4 := mK (show w4.heap[w3.heap.size]? = some (.cells #[.bool nb, .slice na nn nc] 50 (0, 0)) by rw [hw4]; exact heap_alloc_new _ _)); (have z4 := mK ((hx.trans hx4).blk z2.out)); (have E4 := mK (((hE1.out.trans hE.out).trans hx).trans hx4)); (have hv4 := mK (hv.ext hx4)); replace hw4 := mK hw4; clear hx hx4 hv ho)
     | (replace tok : Tok 2 := nxT 1 tok; go_at_call 79; rw [← hw4.out]; refine (KS.out w4).mono ?_; rintro e w5 ⟨v, b, Y', rfl, ho, hv, hx⟩; (obtain rfl : b = false := by (rcases ho with ⟨h, -⟩ | ⟨-, h, -⟩; cases h; exact h)); (obtain ⟨db, da, dn, dc, rfl⟩ := hv.shape); (have hx6 := hx.al (.cells #[.bool db, .slice da dn dc] 50)); (have z6 := mK (hx6.blk z4.out)); (have E6 := mK (E4.out.trans hx6)); clear hx hx6 hv ho)
     | (replace tok : Tok 9 := nxT 2 tok; refine wpList_store_row rfl 52 (.tmp 2) (.tmp 60) rfl w.heap.size #[.bool false, .slice none 0 0, .bool false, .slice none 0 0] rfl rfl 52 _ z6.out (by kernel_rfl) rfl (by kernel_rfl) ?_))
    refine bodyPost_ret (results_row_tmp rfl _ _ w.heap.size 52 #[.bool false, .slice none 0 0, .bool false, .slice none 0 0] _ _ rfl rfl (setRow_heap _ _ _ _ _ _ z6.out) Tryz.underlying52 rfl (by kernel_rfl)) rfl ?_
    exact ⟨⟨false, none, 0, 0, false, none, 0, 0⟩, false, rfl, E6.out.row (nR _) _, .inl ⟨rfl, rfl⟩⟩
   ·obtain rfl : k = s.size := by omega
    go_wp2_with (first
     | (replace tok : Tok 1 := nxT 0 tok; go_at_call 79; refine (KR.out w2).mono ?_; rintro e w3 ⟨v, b, X', rfl, ho, hv, hx⟩; (obtain ⟨rfl, rfl⟩ : X = X' ∧ b = true := by (rcases ho with ⟨h1, h2⟩ | ⟨h1, h2, h3⟩; exact ⟨Option.some.inj h1, h2⟩; cases h1)); (obtain ⟨nb, na, nn, nc, rfl⟩ := hv.shape); (obtain ⟨w4, hw4⟩ : ∃ w4, w4 = w3.alloc (.cells #[.bool nb, .slice na nn nc] 50) := ⟨_, rfl⟩); (have hx4 : Ext w3 w4 := by rw [hw4]; exact (xR w3).al _); (have y4 := mK (show w4.heap[w3.heap.size]? = some (.cells #[.bool nb, .slice na nn nc] 50 (0, 0)) by rw [hw4]; exact heap_alloc_new _ _)); (have z4 := mK ((hx.trans hx4).blk z2.out)); (have E4 := mK (((hE1.out.trans hE.out).trans hx).trans hx4)); (have hv4 := mK (hv.ext hx4)); replace hw4 := mK hw4; clear hx hx4 hv ho)
     | (replace tok : Tok 2 := nxT 1 tok; go_at_call 79; rw [← hw4.out]; refine (KS.out w4).mono ?_; rintro e w5 ⟨v, b, Y', rfl, ho, hv, hx⟩; (obtain rfl : b = false := by (rcases ho with ⟨h, -⟩ | ⟨-, h, -⟩; cases h; exact h)); (obtain ⟨db, da, dn, dc, rfl⟩ := hv.shape); (have hx6 := hx.al (.cells #[.bool db, .slice da dn dc] 50)); (have z6 := mK (hx6.blk z4.out)); (have E6 := mK (E4.out.trans hx6)); clear hx hx6 hv ho)
     | (replace tok : Tok 9 := nxT 2 tok; refine wpList_store_row rfl 52 (.tmp 2) (.tmp 60) rfl w.heap.size #[.bool false, .slice none 0 0, .bool false, .slice none 0 0] rfl rfl 52 _ z6.out (by kernel_rfl) rfl (by kernel_rfl) ?_))
    refine bodyPost_ret (results_row_tmp rfl _ _ w.heap.size 52 #[.bool false, .slice none 0 0, .bool false, .slice none 0 0] _ _ rfl rfl (setRow_heap _ _ _ _ _ _ z6.out) Tryz.underlying52 rfl (by kernel_rfl)) rfl ?_
    exact ⟨⟨false, none, 0, 0, false, none, 0, 0⟩, false, rfl, E6.out.row (nR _) _, .inl ⟨rfl, rfl⟩⟩
set_option maxHeartbeats 6400000 in
theorem rratRead_low
 (s : ByteArray) (w : World) (A : Nat) (xb yb : ByteArray) (hs : s.size ≤ 65536) (hAs : A < s.size) (hno' : ∀ k (h : k < A), s[k]'(by omega) ≠ 47) (hyes' : s[A] = 47) (hX0 : s.extract 0 A = xb) (hY0 : s.extract (A + 1) s.size = yb) (hxs : xb.size ≤ 65536) (hys : yb.size ≤ 65536)
 (X Y : Int) (hR : readI xb.data.toList = some X) (hR2 : readI yb.data.toList = some Y) (h0 : Y ≤ 0) :
  Calls Tryz.prog 82 #[.string s] w (RFQ w none) := by
 have KR := mK (fun W => rread_c xb W hxs)
 have KS := mK (fun W => rread_c yb W hys)
 have hno := mK hno'
 have hyes := mK hyes'
 clear hno' hyes'
 obtain ⟨w1, hw1⟩ : ∃ w1, w1 = w.alloc (.cells #[.bool false, .slice none 0 0, .bool false, .slice none 0 0] 52) := ⟨_, rfl⟩
 have hE1 := mK (show Ext w w1 by rw [hw1]; exact (xR w).al _)
 have z1 := mK (show w1.heap[w.heap.size]? = some (.cells #[.bool false, .slice none 0 0, .bool false, .slice none 0 0] 52 (0, 0)) by rw [hw1]; exact heap_alloc_new _ _)
 replace hw1 := mK hw1
 have st : Scan s A w1 (.int .i64 s.size) (.int .i64 0) w1 := ⟨0, Nat.zero_le _, rfl, .inl ⟨rfl, Nat.zero_le _⟩, xR _⟩
 replace st := mK st
 have nY : nl Y ≤ 1073741824 := nT (readI_nl hR2) (by rw [list_size]; omega)
 rw [hR] at KR
 rw [hR2] at KS
 obtain ⟨SG, hSG⟩ : ∃ SG, SG = Y.sign := ⟨_, rfl⟩
 have hsg : SG ≤ 0 := by rw [hSG]; rcases Int.lt_or_eq_of_le h0 with h | h; rw [Int.sign_eq_neg_one_of_neg h]; decide; rw [h]; decide
 replace hSG := mK hSG
 clear hR hR2 hxs hys h0
 go_enter Tryz.func82, Tryz.ntmps82
 go_wp2_with fail
 rw [← hw1.out]
 go_loopw [4, 5] (fun t4 t5 wr => Scan s A w1 t4 t5 wr) (fun _ t5 _ => s.size - (intOf t5).toNat)
 case atStart => exact st.out
 case round =>
  clear st
  obtain ⟨k, hk, rfl, hcase, hE⟩ := hrel
  obtain ⟨w2, rfl⟩ : ∃ w2 : World, w2 = wr := ⟨_, rfl⟩
  have z2 := mK (hE.blk z1.out)
  replace hE := mK hE
  rcases hcase with ⟨rfl, hkA⟩ | ⟨-, rfl⟩
  ·have hlt : k < s.size := by omega
   by_cases hkA' : k < A
   ·have hb := hno.out k hkA'
    have hb1 : (s[k].toNat == 47) = false := by
     rw [beq_eq_false_iff_ne]
     intro e
     exact hb (UInt8.toNat_inj.1 e)
    have hb2 : ((s[k].toNat : Int) == 47) = false := by
     rw [beq_eq_false_iff_ne]
     intro e
     rw [beq_eq_false_iff_ne] at hb1
     omega
    clear hb
    have hnew : Scan s A w1 (.int .i64 s.size) (.int .i64 ((k + 1 : Nat) : Int)) w2 := ⟨k + 1, by omega, rfl, .inl ⟨rfl, by omega⟩, hE.out⟩
    replace hnew := mK hnew
    go_wp2_with fail
    go_roundw
    case measure => simp [intOf]; omega
    case rel => exact hnew.out
   ·obtain rfl : k = A := by omega
    have hb1 : (s[k].toNat == 47) = true := by rw [hyes.out]; rfl
    have hb2 : ((s[k].toNat : Int) == 47) = true := by rw [hyes.out]; rfl
    have hnew : Scan s k w1 (.int .i64 k) (.int .i64 ((k + 1 : Nat) : Int)) w2 := ⟨k + 1, by omega, rfl, .inr ⟨hAs, rfl⟩, hE.out⟩
    replace hnew := mK hnew
    go_wp2_with fail
    go_roundw
    case measure => simp [intOf]; omega
    case rel => exact hnew.out
  ·have hAn : ((A : Int) == (s.size : Int)) = false := by rw [beq_eq_false_iff_ne]; omega
   have tok : Tok 0 := .mk _
   by_cases hlt : k < s.size
   ·go_wp2_with (first
     | (replace tok : Tok 1 := nxT 0 tok; go_at_call 79; refine (KR.out w2).mono ?_; rintro e w3 ⟨v, b, X', rfl, ho, hv, hx⟩; (obtain ⟨rfl, rfl⟩ : X = X' ∧ b = true := by (rcases ho with ⟨h1, h2⟩ | ⟨h1, h2, h3⟩; exact ⟨Option.some.inj h1, h2⟩; cases h1)); (obtain ⟨nb, na, nn, nc, rfl⟩ := hv.shape); (obtain ⟨w4, hw4⟩ : ∃ w4, w4 = w3.alloc (.cells #[.bool nb, .slice na nn nc] 50) := ⟨_, rfl⟩); (have hx4 : Ext w3 w4 := by rw [hw4]; exact (xR w3).al _); (have y4 := mK (show w4.heap[w3.heap.size]? = some (.cells #[.bool nb, .slice na nn nc] 50 (0, 0)) by rw [hw4]; exact heap_alloc_new _ _)); (have z4 := mK ((hx.trans hx4).blk z2.out)); (have E4 := mK (((hE1.out.trans hE.out).trans hx).trans hx4)); (have hv4 := mK (hv.ext hx4)); replace hw4 := mK hw4; clear hx hx4 hv ho)
     | (replace tok : Tok 2 := nxT 1 tok; go_at_call 79; rw [← hw4.out]; refine (KS.out w4).mono ?_; rintro e w5 ⟨v, b, Y', rfl, ho, hv, hx⟩; (obtain ⟨rfl, rfl⟩ : Y = Y' ∧ b = true := by (rcases ho with ⟨h1, h2⟩ | ⟨h1, h2, h3⟩; exact ⟨Option.some.inj h1, h2⟩; cases h1)); (obtain ⟨db, da, dn, dc, rfl⟩ := hv.shape); (obtain ⟨w6, hw6⟩ : ∃ w6, w6 = w5.alloc (.cells #[.bool db, .slice da dn dc] 50) := ⟨_, rfl⟩); (have hx6 : Ext w5 w6 := by rw [hw6]; exact (xR w5).al _); (have u6 := mK (show w6.heap[w5.heap.size]? = some (.cells #[.bool db, .slice da dn dc] 50 (0, 0)) by rw [hw6]; exact heap_alloc_new _ _)); (have y6 := mK ((hx.trans hx6).blk y4.out)); (have z6 := mK ((hx.trans hx6).blk z4.out)); (have E6 := mK ((E4.out.trans hx).trans hx6)); (have hn6 := mK (hv4.out.ext (hx.trans hx6))); (have hd6 := mK (hv.ext hx6)); replace hw6 := mK hw6; clear hx hx6 hv ho)
     | (replace tok : Tok 3 := nxT 2 tok; go_at_call 136; rw [← hw6.out]; refine (rsign_c _ Y w6 hd6.out nY).mono ?_; rintro e w7 ⟨rfl, hx7⟩; rw [← hSG.out]; (obtain ⟨j0, j1⟩ := row2_cells (hx7.blk y6.out)); (obtain ⟨i0, i1⟩ := row2_cells (hx7.blk u6.out)); (have z7 := mK (hx7.blk z6.out)); (have E7 := mK (E6.out.trans hx7)); (have hn7 := mK (hn6.out.ext hx7)); (have hd7 := mK (hd6.out.ext hx7)); clear hx7)
     | (replace tok : Tok 9 := nxT 3 tok; refine wpList_store_row rfl 52 (.tmp 2) (.tmp 60) rfl w.heap.size #[.bool false, .slice none 0 0, .bool false, .slice none 0 0] rfl rfl 52 _ z7.out (by kernel_rfl) rfl (by kernel_rfl) ?_))
    refine bodyPost_ret (results_row_tmp rfl _ _ w.heap.size 52 #[.bool false, .slice none 0 0, .bool false, .slice none 0 0] _ _ rfl rfl (setRow_heap _ _ _ _ _ _ z7.out) Tryz.underlying52 rfl (by kernel_rfl)) rfl ?_
    exact ⟨⟨false, none, 0, 0, false, none, 0, 0⟩, false, rfl, E7.out.row (nR _) _, .inl ⟨rfl, rfl⟩⟩
   ·obtain rfl : k = s.size := by omega
    go_wp2_with (first
     | (replace tok : Tok 1 := nxT 0 tok; go_at_call 79; refine (KR.out w2).mono ?_; rintro e w3 ⟨v, b, X', rfl, ho, hv, hx⟩; (obtain ⟨rfl, rfl⟩ : X = X' ∧ b = true := by (rcases ho with ⟨h1, h2⟩ | ⟨h1, h2, h3⟩; exact ⟨Option.some.inj h1, h2⟩; cases h1)); (obtain ⟨nb, na, nn, nc, rfl⟩ := hv.shape); (obtain ⟨w4, hw4⟩ : ∃ w4, w4 = w3.alloc (.cells #[.bool nb, .slice na nn nc] 50) := ⟨_, rfl⟩); (have hx4 : Ext w3 w4 := by rw [hw4]; exact (xR w3).al _); (have y4 := mK (show w4.heap[w3.heap.size]? = some (.cells #[.bool nb, .slice na nn nc] 50 (0, 0)) by rw [hw4]; exact heap_alloc_new _ _)); (have z4 := mK ((hx.trans hx4).blk z2.out)); (have E4 := mK (((hE1.out.trans hE.out).trans hx).trans hx4)); (have hv4 := mK (hv.ext hx4)); replace hw4 := mK hw4; clear hx hx4 hv ho)
     | (replace tok : Tok 2 := nxT 1 tok; go_at_call 79; rw [← hw4.out]; refine (KS.out w4).mono ?_; rintro e w5 ⟨v, b, Y', rfl, ho, hv, hx⟩; (obtain ⟨rfl, rfl⟩ : Y = Y' ∧ b = true := by (rcases ho with ⟨h1, h2⟩ | ⟨h1, h2, h3⟩; exact ⟨Option.some.inj h1, h2⟩; cases h1)); (obtain ⟨db, da, dn, dc, rfl⟩ := hv.shape); (obtain ⟨w6, hw6⟩ : ∃ w6, w6 = w5.alloc (.cells #[.bool db, .slice da dn dc] 50) := ⟨_, rfl⟩); (have hx6 : Ext w5 w6 := by rw [hw6]; exact (xR w5).al _); (have u6 := mK (show w6.heap[w5.heap.size]? = some (.cells #[.bool db, .slice da dn dc] 50 (0, 0)) by rw [hw6]; exact heap_alloc_new _ _)); (have y6 := mK ((hx.trans hx6).blk y4.out)); (have z6 := mK ((hx.trans hx6).blk z4.out)); (have E6 := mK ((E4.out.trans hx).trans hx6)); (have hn6 := mK (hv4.out.ext (hx.trans hx6))); (have hd6 := mK (hv.ext hx6)); replace hw6 := mK hw6; clear hx hx6 hv ho)
     | (replace tok : Tok 3 := nxT 2 tok; go_at_call 136; rw [← hw6.out]; refine (rsign_c _ Y w6 hd6.out nY).mono ?_; rintro e w7 ⟨rfl, hx7⟩; rw [← hSG.out]; (obtain ⟨j0, j1⟩ := row2_cells (hx7.blk y6.out)); (obtain ⟨i0, i1⟩ := row2_cells (hx7.blk u6.out)); (have z7 := mK (hx7.blk z6.out)); (have E7 := mK (E6.out.trans hx7)); (have hn7 := mK (hn6.out.ext hx7)); (have hd7 := mK (hd6.out.ext hx7)); clear hx7)
     | (replace tok : Tok 9 := nxT 3 tok; refine wpList_store_row rfl 52 (.tmp 2) (.tmp 60) rfl w.heap.size #[.bool false, .slice none 0 0, .bool false, .slice none 0 0] rfl rfl 52 _ z7.out (by kernel_rfl) rfl (by kernel_rfl) ?_))
    refine bodyPost_ret (results_row_tmp rfl _ _ w.heap.size 52 #[.bool false, .slice none 0 0, .bool false, .slice none 0 0] _ _ rfl rfl (setRow_heap _ _ _ _ _ _ z7.out) Tryz.underlying52 rfl (by kernel_rfl)) rfl ?_
    exact ⟨⟨false, none, 0, 0, false, none, 0, 0⟩, false, rfl, E7.out.row (nR _) _, .inl ⟨rfl, rfl⟩⟩
set_option maxHeartbeats 6400000 in
theorem rratRead_d
 (s : ByteArray) (w : World) (A : Nat) (xb yb : ByteArray) (hs : s.size ≤ 65536) (hAs : A < s.size) (hno' : ∀ k (h : k < A), s[k]'(by omega) ≠ 47) (hyes' : s[A] = 47) (hX0 : s.extract 0 A = xb) (hY0 : s.extract (A + 1) s.size = yb) (hxs : xb.size ≤ 65536) (hys : yb.size ≤ 65536)
 (X Y : Int) (q : Rat) (hR : readI xb.data.toList = some X) (hR2 : readI yb.data.toList = some Y) (h0 : 0 < Y) (hq : q = Rat.divInt X Y) (b : Bool) (hb : decide (ratText q = s.data.toList) = b) :
  Calls Tryz.prog 82 #[.string s] w (RFQ w (if b = true then some q else none)) := by
 have KR := mK (fun W => rread_c xb W hxs)
 have KS := mK (fun W => rread_c yb W hys)
 have hno := mK hno'
 have hyes := mK hyes'
 clear hno' hyes'
 obtain ⟨w1, hw1⟩ : ∃ w1, w1 = w.alloc (.cells #[.bool false, .slice none 0 0, .bool false, .slice none 0 0] 52) := ⟨_, rfl⟩
 have hE1 := mK (show Ext w w1 by rw [hw1]; exact (xR w).al _)
 have z1 := mK (show w1.heap[w.heap.size]? = some (.cells #[.bool false, .slice none 0 0, .bool false, .slice none 0 0] 52 (0, 0)) by rw [hw1]; exact heap_alloc_new _ _)
 replace hw1 := mK hw1
 have st : Scan s A w1 (.int .i64 s.size) (.int .i64 0) w1 := ⟨0, Nat.zero_le _, rfl, .inl ⟨rfl, Nat.zero_le _⟩, xR _⟩
 replace st := mK st
 have nX : nl X ≤ 268435456 := nT (readI_nl hR) (by rw [list_size]; omega)
 have nY' : nl Y ≤ 268435456 := nT (readI_nl hR2) (by rw [list_size]; omega)
 have nY : nl Y ≤ 1073741824 := by omega
 have hY0n : Y ≠ 0 := by omega
 have nq : nf q ≤ 65536 := by
  rw [hq]
  refine nT (nf_div X Y hY0n) ?_
  have h1 := readI_nl hR
  have h2 := readI_nl hR2
  rw [list_size] at h1 h2
  omega
 rw [hR] at KR
 rw [hR2] at KS
 obtain ⟨SG, hSG⟩ : ∃ SG, SG = Y.sign := ⟨_, rfl⟩
 have hsg : 0 < SG := by rw [hSG, Int.sign_eq_one_of_pos h0]; decide
 replace hSG := mK hSG
 have hQ := mK hq
 obtain ⟨TB, hTB⟩ : ∃ TB : ByteArray, TB = ⟨(ratText q).toArray⟩ := ⟨_, rfl⟩
 have hTs : (TB.toList == s.toList) = b := by
  rw [hTB, ByteArray.toList_eq, ByteArray.toList_eq, ← hb, Bool.eq_iff_iff]
  simp
 replace hTB := mK hTB
 replace nq := mK nq
 obtain ⟨o, hO⟩ : ∃ o, o = if b = true then some q else none := ⟨_, rfl⟩
 rw [← hO]
 replace hO := mK hO
 clear hR hR2 hxs hys h0 hq hb
 go_enter Tryz.func82, Tryz.ntmps82
 go_wp2_with fail
 rw [← hw1.out]
 go_loopw [4, 5] (fun t4 t5 wr => Scan s A w1 t4 t5 wr) (fun _ t5 _ => s.size - (intOf t5).toNat)
 case atStart => exact st.out
 case round =>
  clear st
  obtain ⟨k, hk, rfl, hcase, hE⟩ := hrel
  obtain ⟨w2, rfl⟩ : ∃ w2 : World, w2 = wr := ⟨_, rfl⟩
  have z2 := mK (hE.blk z1.out)
  replace hE := mK hE
  rcases hcase with ⟨rfl, hkA⟩ | ⟨-, rfl⟩
  ·have hlt : k < s.size := by omega
   by_cases hkA' : k < A
   ·have hb := hno.out k hkA'
    have hb1 : (s[k].toNat == 47) = false := by
     rw [beq_eq_false_iff_ne]
     intro e
     exact hb (UInt8.toNat_inj.1 e)
    have hb2 : ((s[k].toNat : Int) == 47) = false := by
     rw [beq_eq_false_iff_ne]
     intro e
     rw [beq_eq_false_iff_ne] at hb1
     omega
    clear hb
    have hnew : Scan s A w1 (.int .i64 s.size) (.int .i64 ((k + 1 : Nat) : Int)) w2 := ⟨k + 1, by omega, rfl, .inl ⟨rfl, by omega⟩, hE.out⟩
    replace hnew := mK hnew
    go_wp2_with fail
    go_roundw
    case measure => simp [intOf]; omega
    case rel => exact hnew.out
   ·obtain rfl : k = A := by omega
    have hb1 : (s[k].toNat == 47) = true := by rw [hyes.out]; rfl
    have hb2 : ((s[k].toNat : Int) == 47) = true := by rw [hyes.out]; rfl
    have hnew : Scan s k w1 (.int .i64 k) (.int .i64 ((k + 1 : Nat) : Int)) w2 := ⟨k + 1, by omega, rfl, .inr ⟨hAs, rfl⟩, hE.out⟩
    replace hnew := mK hnew
    go_wp2_with fail
    go_roundw
    case measure => simp [intOf]; omega
    case rel => exact hnew.out
  ·have hAn : ((A : Int) == (s.size : Int)) = false := by rw [beq_eq_false_iff_ne]; omega
   have tok : Tok 0 := .mk _
   by_cases hlt : k < s.size
   ·go_wp2_with (first
     | (replace tok : Tok 1 := nxT 0 tok; go_at_call 79; refine (KR.out w2).mono ?_; rintro e w3 ⟨v, b, X', rfl, ho, hv, hx⟩; (obtain ⟨rfl, rfl⟩ : X = X' ∧ b = true := by (rcases ho with ⟨h1, h2⟩ | ⟨h1, h2, h3⟩; exact ⟨Option.some.inj h1, h2⟩; cases h1)); (obtain ⟨nb, na, nn, nc, rfl⟩ := hv.shape); (obtain ⟨w4, hw4⟩ : ∃ w4, w4 = w3.alloc (.cells #[.bool nb, .slice na nn nc] 50) := ⟨_, rfl⟩); (have hx4 : Ext w3 w4 := by rw [hw4]; exact (xR w3).al _); (have y4 := mK (show w4.heap[w3.heap.size]? = some (.cells #[.bool nb, .slice na nn nc] 50 (0, 0)) by rw [hw4]; exact heap_alloc_new _ _)); (have z4 := mK ((hx.trans hx4).blk z2.out)); (have E4 := mK (((hE1.out.trans hE.out).trans hx).trans hx4)); (have hv4 := mK (hv.ext hx4)); replace hw4 := mK hw4; clear hx hx4 hv ho)
     | (replace tok : Tok 2 := nxT 1 tok; go_at_call 79; rw [← hw4.out]; refine (KS.out w4).mono ?_; rintro e w5 ⟨v, b, Y', rfl, ho, hv, hx⟩; (obtain ⟨rfl, rfl⟩ : Y = Y' ∧ b = true := by (rcases ho with ⟨h1, h2⟩ | ⟨h1, h2, h3⟩; exact ⟨Option.some.inj h1, h2⟩; cases h1)); (obtain ⟨db, da, dn, dc, rfl⟩ := hv.shape); (obtain ⟨w6, hw6⟩ : ∃ w6, w6 = w5.alloc (.cells #[.bool db, .slice da dn dc] 50) := ⟨_, rfl⟩); (have hx6 : Ext w5 w6 := by rw [hw6]; exact (xR w5).al _); (have u6 := mK (show w6.heap[w5.heap.size]? = some (.cells #[.bool db, .slice da dn dc] 50 (0, 0)) by rw [hw6]; exact heap_alloc_new _ _)); (have y6 := mK ((hx.trans hx6).blk y4.out)); (have z6 := mK ((hx.trans hx6).blk z4.out)); (have E6 := mK ((E4.out.trans hx).trans hx6)); (have hn6 := mK (hv4.out.ext (hx.trans hx6))); (have hd6 := mK (hv.ext hx6)); replace hw6 := mK hw6; clear hx hx6 hv ho)
     | (replace tok : Tok 3 := nxT 2 tok; go_at_call 136; rw [← hw6.out]; refine (rsign_c _ Y w6 hd6.out nY).mono ?_; rintro e w7 ⟨rfl, hx7⟩; rw [← hSG.out]; (obtain ⟨j0, j1⟩ := row2_cells (hx7.blk y6.out)); (obtain ⟨i0, i1⟩ := row2_cells (hx7.blk u6.out)); (have z7 := mK (hx7.blk z6.out)); (have E7 := mK (E6.out.trans hx7)); (have hn7 := mK (hn6.out.ext hx7)); (have hd7 := mK (hd6.out.ext hx7)); clear hx7)
     | (replace tok : Tok 4 := nxT 3 tok; go_at_call 137; refine (rlow_c _ _ X Y w7 nX nY' hY0n hn7.out hd7.out).mono ?_; rintro e w8 ⟨v, rfl, hf, hx8⟩; rw [← hQ.out] at hf; (obtain ⟨p1, q1, r1, s1, p2, q2, r2, s2, rfl⟩ := hf.shape); (have z8 := mK (hx8.blk z7.out)); (have E8 := mK (E7.out.trans hx8)); replace hf := mK hf; clear hx8 j0 j1 i0 i1))
    obtain ⟨w9, hw9⟩ : ∃ w9, w9 = w8.alloc (.cells #[.bool p1, .slice q1 r1 s1, .bool p2, .slice q2 r2 s2] 52) := ⟨_, rfl⟩
    have hx9 : Ext w8 w9 := by rw [hw9]; exact (xR w8).al _
    have t9 := mK (show w9.heap[w8.heap.size]? = some (.cells #[.bool p1, .slice q1 r1 s1, .bool p2, .slice q2 r2 s2] 52 (0, 0)) by rw [hw9]; exact heap_alloc_new _ _)
    have z8l := mK (show w.heap.size < w8.heap.size from (Array.getElem?_eq_some_iff.1 z8.out).1)
    rw [← hw9]
    have z9 := mK (hx9.blk z8.out)
    have E9 := mK (E8.out.trans hx9)
    replace hf := mK (hf.out.ext hx9)
    clear hw9 hx9
    apply region_row w.heap.size #[.bool p1, .slice q1 r1 s1, .bool p2, .slice q2 r2 s2] 52 [.val (.agg #[.bool p1, .slice q1 r1 s1, .bool p2, .slice q2 r2 s2]), .val (.agg #[.bool p1, .slice q1 r1 s1, .bool p2, .slice q2 r2 s2]), .val (.string TB), .val (.string s), .val (.bool b), .pred (RowNew w.heap.size #[.bool p1, .slice q1 r1 s1, .bool p2, .slice q2 r2 s2] 52), .val (.bool b)]
    case hok => kernel_rfl
    case hst => exact (stable_vals _ (stable_vals _ (stable_vals _ (stable_vals _ (stable_vals _ (st_rowNew (stable_vals _ trivial)))))))
    case hvo =>
     iterate 5 (refine ⟨(by intro h; cases h), ?_⟩)
     refine ⟨(by intro _ W v h; exact h), ?_⟩
     exact ⟨(by intro h; cases h), trivial⟩
    refine ⟨?g10, ?_⟩
    case g10 =>
     intro W hW hF
     have hr := hW.blk t9.out (by have := z8l.out; omega)
     with_reducible refine fr_load ?zhw 52 (.tmp 9) ?zho (w8.heap.size) ?zhx 52 #[.bool p1, .slice q1 r1 s1, .bool p2, .slice q2 r2 s2] (0, 0) _ hr Tryz.underlying52 ?zhd ?zhi ?zh
     case zhw => kernel_rfl
     case zho => rfl
     case zhx => kernel_rfl
     case zhd => rfl
     case zhi => kernel_rfl
     case zh => exact ⟨StR.refl _ _ _ _, rfl⟩
    refine ⟨?g11, ?_⟩
    case g11 =>
     intro W hW hF
     have hr := hW.blk t9.out (by have := z8l.out; omega)
     with_reducible refine fr_load ?zhw 52 (.tmp 9) ?zho (w8.heap.size) ?zhx 52 #[.bool p1, .slice q1 r1 s1, .bool p2, .slice q2 r2 s2] (0, 0) _ hr Tryz.underlying52 ?zhd ?zhi ?zh
     case zhw => kernel_rfl
     case zho => rfl
     case zhx => kernel_rfl
     case zhd => rfl
     case zhi => kernel_rfl
     case zh => exact ⟨StR.refl _ _ _ _, rfl⟩
    refine ⟨fun W hW _ => ?g1, ?_⟩
    case g1 =>
     have hfW := FracR.str hf.out z9.out (by simp [flatV]) hW
     go_simp
     refine (rratDigits_c _ q W nq.out hfW).mono ?_
     rintro e w' ⟨rfl, h1⟩
     rw [← hTB.out]
     exact ⟨rfl, StR.of_ext h1⟩
    iterate 2 (refine ⟨fun W hW _ => by go_simp; first | exact ⟨StR.refl _ _ _ _, rfl⟩ | exact StR.refl _ _ _ _ | exact ⟨StR.refl _ _ _ _, hTs⟩ | exact ⟨StR.refl _ _ _ _, by rw [hTs]⟩ | rfl, ?_⟩)
    refine ⟨?g1s, fun _ => ⟨fun W hW _ => by go_simp; first | exact ⟨StR.refl _ _ _ _, rfl⟩ | exact StR.refl _ _ _ _, ?_⟩⟩
    case g1s =>
     intro W hW hF
     with_reducible refine fr_store_str (ty := 52) (x := .tmp 2) (y := .tmp 64) (g := w.heap.size) (t := 52) (new := #[.bool p1, .slice q1 r1 s1, .bool p2, .slice q2 r2 s2]) ?zhw ?zho ?zhx ?zhy z9.out hW ?zhi ?zhs ?zhc ?zh
     case zhw => kernel_rfl
     case zho => rfl
     case zhx => kernel_rfl
     case zhy => kernel_rfl
     case zhi => kernel_rfl
     case zhs => rfl
     case zhc => kernel_rfl
     case zh => exact fun _ h1 h2 => ⟨h1, h2⟩
    intro W hW hF
    have zW : W.heap[w.heap.size]? = some (.cells #[.bool p1, .slice q1 r1 s1, .bool p2, .slice q2 r2 s2] 52 (0, 0)) := hF.1 rfl
    have EW := mK (StR.ext E9.out hW (nR _))
    have FR := mK (FracR.str hf.out z9.out (by simp [flatV]) hW)
    clear t9 hF hW hTs
    go_simp
    go_wp2_with fail
    refine bodyPost_ret (results_row_tmp rfl _ _ w.heap.size 52 #[.bool p1, .slice q1 r1 s1, .bool p2, .slice q2 r2 s2] _ _ rfl rfl zW Tryz.underlying52 rfl (by kernel_rfl)) rfl ?_
    refine ⟨⟨p1, q1, r1, s1, p2, q2, r2, s2⟩, b, rfl, EW.out, ?_⟩
    rw [hO.out]
    cases b with
    | false => exact .inl ⟨rfl, rfl⟩
    | true => exact .inr ⟨q, rfl, rfl, FR.out⟩
   ·obtain rfl : k = s.size := by omega
    go_wp2_with (first
     | (replace tok : Tok 1 := nxT 0 tok; go_at_call 79; refine (KR.out w2).mono ?_; rintro e w3 ⟨v, b, X', rfl, ho, hv, hx⟩; (obtain ⟨rfl, rfl⟩ : X = X' ∧ b = true := by (rcases ho with ⟨h1, h2⟩ | ⟨h1, h2, h3⟩; exact ⟨Option.some.inj h1, h2⟩; cases h1)); (obtain ⟨nb, na, nn, nc, rfl⟩ := hv.shape); (obtain ⟨w4, hw4⟩ : ∃ w4, w4 = w3.alloc (.cells #[.bool nb, .slice na nn nc] 50) := ⟨_, rfl⟩); (have hx4 : Ext w3 w4 := by rw [hw4]; exact (xR w3).al _); (have y4 := mK (show w4.heap[w3.heap.size]? = some (.cells #[.bool nb, .slice na nn nc] 50 (0, 0)) by rw [hw4]; exact heap_alloc_new _ _)); (have z4 := mK ((hx.trans hx4).blk z2.out)); (have E4 := mK (((hE1.out.trans hE.out).trans hx).trans hx4)); (have hv4 := mK (hv.ext hx4)); replace hw4 := mK hw4; clear hx hx4 hv ho)
     | (replace tok : Tok 2 := nxT 1 tok; go_at_call 79; rw [← hw4.out]; refine (KS.out w4).mono ?_; rintro e w5 ⟨v, b, Y', rfl, ho, hv, hx⟩; (obtain ⟨rfl, rfl⟩ : Y = Y' ∧ b = true := by (rcases ho with ⟨h1, h2⟩ | ⟨h1, h2, h3⟩; exact ⟨Option.some.inj h1, h2⟩; cases h1)); (obtain ⟨db, da, dn, dc, rfl⟩ := hv.shape); (obtain ⟨w6, hw6⟩ : ∃ w6, w6 = w5.alloc (.cells #[.bool db, .slice da dn dc] 50) := ⟨_, rfl⟩); (have hx6 : Ext w5 w6 := by rw [hw6]; exact (xR w5).al _); (have u6 := mK (show w6.heap[w5.heap.size]? = some (.cells #[.bool db, .slice da dn dc] 50 (0, 0)) by rw [hw6]; exact heap_alloc_new _ _)); (have y6 := mK ((hx.trans hx6).blk y4.out)); (have z6 := mK ((hx.trans hx6).blk z4.out)); (have E6 := mK ((E4.out.trans hx).trans hx6)); (have hn6 := mK (hv4.out.ext (hx.trans hx6))); (have hd6 := mK (hv.ext hx6)); replace hw6 := mK hw6; clear hx hx6 hv ho)
     | (replace tok : Tok 3 := nxT 2 tok; go_at_call 136; rw [← hw6.out]; refine (rsign_c _ Y w6 hd6.out nY).mono ?_; rintro e w7 ⟨rfl, hx7⟩; rw [← hSG.out]; (obtain ⟨j0, j1⟩ := row2_cells (hx7.blk y6.out)); (obtain ⟨i0, i1⟩ := row2_cells (hx7.blk u6.out)); (have z7 := mK (hx7.blk z6.out)); (have E7 := mK (E6.out.trans hx7)); (have hn7 := mK (hn6.out.ext hx7)); (have hd7 := mK (hd6.out.ext hx7)); clear hx7)
     | (replace tok : Tok 4 := nxT 3 tok; go_at_call 137; refine (rlow_c _ _ X Y w7 nX nY' hY0n hn7.out hd7.out).mono ?_; rintro e w8 ⟨v, rfl, hf, hx8⟩; rw [← hQ.out] at hf; (obtain ⟨p1, q1, r1, s1, p2, q2, r2, s2, rfl⟩ := hf.shape); (have z8 := mK (hx8.blk z7.out)); (have E8 := mK (E7.out.trans hx8)); replace hf := mK hf; clear hx8 j0 j1 i0 i1))
    obtain ⟨w9, hw9⟩ : ∃ w9, w9 = w8.alloc (.cells #[.bool p1, .slice q1 r1 s1, .bool p2, .slice q2 r2 s2] 52) := ⟨_, rfl⟩
    have hx9 : Ext w8 w9 := by rw [hw9]; exact (xR w8).al _
    have t9 := mK (show w9.heap[w8.heap.size]? = some (.cells #[.bool p1, .slice q1 r1 s1, .bool p2, .slice q2 r2 s2] 52 (0, 0)) by rw [hw9]; exact heap_alloc_new _ _)
    have z8l := mK (show w.heap.size < w8.heap.size from (Array.getElem?_eq_some_iff.1 z8.out).1)
    rw [← hw9]
    have z9 := mK (hx9.blk z8.out)
    have E9 := mK (E8.out.trans hx9)
    replace hf := mK (hf.out.ext hx9)
    clear hw9 hx9
    apply region_row w.heap.size #[.bool p1, .slice q1 r1 s1, .bool p2, .slice q2 r2 s2] 52 [.val (.agg #[.bool p1, .slice q1 r1 s1, .bool p2, .slice q2 r2 s2]), .val (.agg #[.bool p1, .slice q1 r1 s1, .bool p2, .slice q2 r2 s2]), .val (.string TB), .val (.string s), .val (.bool b), .pred (RowNew w.heap.size #[.bool p1, .slice q1 r1 s1, .bool p2, .slice q2 r2 s2] 52), .val (.bool b)]
    case hok => kernel_rfl
    case hst => exact (stable_vals _ (stable_vals _ (stable_vals _ (stable_vals _ (stable_vals _ (st_rowNew (stable_vals _ trivial)))))))
    case hvo =>
     iterate 5 (refine ⟨(by intro h; cases h), ?_⟩)
     refine ⟨(by intro _ W v h; exact h), ?_⟩
     exact ⟨(by intro h; cases h), trivial⟩
    refine ⟨?g20, ?_⟩
    case g20 =>
     intro W hW hF
     have hr := hW.blk t9.out (by have := z8l.out; omega)
     with_reducible refine fr_load ?zhw 52 (.tmp 9) ?zho (w8.heap.size) ?zhx 52 #[.bool p1, .slice q1 r1 s1, .bool p2, .slice q2 r2 s2] (0, 0) _ hr Tryz.underlying52 ?zhd ?zhi ?zh
     case zhw => kernel_rfl
     case zho => rfl
     case zhx => kernel_rfl
     case zhd => rfl
     case zhi => kernel_rfl
     case zh => exact ⟨StR.refl _ _ _ _, rfl⟩
    refine ⟨?g21, ?_⟩
    case g21 =>
     intro W hW hF
     have hr := hW.blk t9.out (by have := z8l.out; omega)
     with_reducible refine fr_load ?zhw 52 (.tmp 9) ?zho (w8.heap.size) ?zhx 52 #[.bool p1, .slice q1 r1 s1, .bool p2, .slice q2 r2 s2] (0, 0) _ hr Tryz.underlying52 ?zhd ?zhi ?zh
     case zhw => kernel_rfl
     case zho => rfl
     case zhx => kernel_rfl
     case zhd => rfl
     case zhi => kernel_rfl
     case zh => exact ⟨StR.refl _ _ _ _, rfl⟩
    refine ⟨fun W hW _ => ?g2, ?_⟩
    case g2 =>
     have hfW := FracR.str hf.out z9.out (by simp [flatV]) hW
     go_simp
     refine (rratDigits_c _ q W nq.out hfW).mono ?_
     rintro e w' ⟨rfl, h1⟩
     rw [← hTB.out]
     exact ⟨rfl, StR.of_ext h1⟩
    iterate 2 (refine ⟨fun W hW _ => by go_simp; first | exact ⟨StR.refl _ _ _ _, rfl⟩ | exact StR.refl _ _ _ _ | exact ⟨StR.refl _ _ _ _, hTs⟩ | exact ⟨StR.refl _ _ _ _, by rw [hTs]⟩ | rfl, ?_⟩)
    refine ⟨?g2s, fun _ => ⟨fun W hW _ => by go_simp; first | exact ⟨StR.refl _ _ _ _, rfl⟩ | exact StR.refl _ _ _ _, ?_⟩⟩
    case g2s =>
     intro W hW hF
     with_reducible refine fr_store_str (ty := 52) (x := .tmp 2) (y := .tmp 64) (g := w.heap.size) (t := 52) (new := #[.bool p1, .slice q1 r1 s1, .bool p2, .slice q2 r2 s2]) ?zhw ?zho ?zhx ?zhy z9.out hW ?zhi ?zhs ?zhc ?zh
     case zhw => kernel_rfl
     case zho => rfl
     case zhx => kernel_rfl
     case zhy => kernel_rfl
     case zhi => kernel_rfl
     case zhs => rfl
     case zhc => kernel_rfl
     case zh => exact fun _ h1 h2 => ⟨h1, h2⟩
    intro W hW hF
    have zW : W.heap[w.heap.size]? = some (.cells #[.bool p1, .slice q1 r1 s1, .bool p2, .slice q2 r2 s2] 52 (0, 0)) := hF.1 rfl
    have EW := mK (StR.ext E9.out hW (nR _))
    have FR := mK (FracR.str hf.out z9.out (by simp [flatV]) hW)
    clear t9 hF hW hTs
    go_simp
    go_wp2_with fail
    refine bodyPost_ret (results_row_tmp rfl _ _ w.heap.size 52 #[.bool p1, .slice q1 r1 s1, .bool p2, .slice q2 r2 s2] _ _ rfl rfl zW Tryz.underlying52 rfl (by kernel_rfl)) rfl ?_
    refine ⟨⟨p1, q1, r1, s1, p2, q2, r2, s2⟩, b, rfl, EW.out, ?_⟩
    rw [hO.out]
    cases b with
    | false => exact .inl ⟨rfl, rfl⟩
    | true => exact .inr ⟨q, rfl, rfl, FR.out⟩
theorem readF_pick {s x y : List UInt8} {X Y : Int} (hc : cutL 47 s = some (x, y)) (hX : readI x = some X) (hY : readI y = some Y) : readF s = if decide (ratText (Rat.divInt X Y) = s) = true then some (Rat.divInt X Y) else none := by
 have h := readF_hit hc
 rw [hX, hY] at h
 simp only at h
 by_cases hg : 1 < Y ∧ Int.gcd X Y = 1
 ·rw [if_pos hg] at h
  rw [h, if_pos (decide_eq_true (text_readF h))]
 ·rw [if_neg hg] at h
  rw [if_neg]
  ·exact h
  ·intro e
   have e := of_decide_eq_true e
   have := readF_text (Rat.divInt X Y)
   rw [e, h] at this
   cases this
theorem readF_low {s x y : List UInt8} {Y : Int} (hc : cutL 47 s = some (x, y)) (hY : readI y = some Y) (h0 : Y ≤ 0) : readF s = none := by
 have h := readF_hit hc
 rw [h, hY]
 cases readI x with
 | none => rfl
 | some X =>
  show (if 1 < Y ∧ Int.gcd X Y = 1 then some (Rat.divInt X Y) else none) = none
  rw [if_neg (by omega)]
theorem rratRead_c (s : ByteArray) (w : World) (hs : s.size ≤ 65536) : Calls Tryz.prog 82 #[.string s] w (RFQ w (readF s.data.toList)) := by
 cases hc : cutL 47 s.data.toList with
 | none => exact rratRead_miss s w hs hc
 | some p =>
  obtain ⟨x, y⟩ := p
  obtain ⟨he, hnx⟩ := cutL_some hc
  have hsl := list_size s
  have hxl : s.data.toList.take x.length = x := by rw [he]; simp
  have hyl : s.data.toList.drop (x.length + 1) = y := by rw [he]; simp
  have hlen : x.length + 1 + y.length = s.size := by rw [← hsl, he]; simp; omega
  have hX0 : (s.extract 0 x.length).data.toList = x := by
   rw [← hxl]
   simp
  have hY0 : (s.extract (x.length + 1) s.size).data.toList = y := by rw [ext_tail, hyl]
  have hxs : (s.extract 0 x.length).size ≤ 65536 := by rw [ByteArray.size_extract]; omega
  have hys : (s.extract (x.length + 1) s.size).size ≤ 65536 := by rw [ByteArray.size_extract]; omega
  have hAs : x.length < s.size := by omega
  have hno : ∀ k (h : k < x.length), s[k]'(by omega) ≠ 47 := fun k h e => by
   have hb := byte_at (D := s) rfl (k := k) (by omega) (by omega)
   have hb2 : s.data.toList[k]'(by omega) = x[k] := by
    simp only [he]
    rw [List.getElem_append_left h]
   exact hnx (by rw [← e, ← hb, hb2]; exact List.getElem_mem h)
  have hyes : s[x.length] = 47 := by
   have hb := byte_at (D := s) rfl (k := x.length) (by omega) (by omega)
   rw [← hb]
   simp only [he]
   rw [List.getElem_append_right (nR _)]
   simp
  cases hx : readI x with
  | none =>
   have hF : readF s.data.toList = none := by rw [readF_hit hc, hx]
   rw [hF]
   exact rratRead_a s w x.length _ _ hs hAs hno hyes rfl rfl hxs hys (by rw [hX0]; exact hx)
  | some X =>
   cases hy : readI y with
   | none =>
    have hF : readF s.data.toList = none := by rw [readF_hit hc, hx, hy]
    rw [hF]
    exact rratRead_b s w x.length _ _ hs hAs hno hyes rfl rfl hxs hys X (by rw [hX0]; exact hx) (by rw [hY0]; exact hy)
   | some Y =>
    by_cases h0 : Y ≤ 0
    ·rw [readF_low hc hy h0]
     exact rratRead_low s w x.length _ _ hs hAs hno hyes rfl rfl hxs hys X Y (by rw [hX0]; exact hx) (by rw [hY0]; exact hy) h0
    ·rw [readF_pick hc hx hy]
     exact rratRead_d s w x.length _ _ hs hAs hno hyes rfl rfl hxs hys X Y _ (by rw [hX0]; exact hx) (by rw [hY0]; exact hy) (by omega) rfl _ rfl
def PFQ (w : World) (o : Option Rat) (e : Ending) (w' : World) : Prop :=
 ∃ (f : FV) (c : Int), e = .returned (.tuple #[.agg #[.bool f.b1, .slice f.a1 f.n1 f.c1, .bool f.b2, .slice f.a2 f.n2 f.c2], .int .i64 c]) ∧ Ext w w' ∧ (o = none ∧ c = 5 ∨ ∃ x, o = some x ∧ c = capE x ∧ (nf x ≤ 2048 → FracR w' (.agg #[.bool f.b1, .slice f.a1 f.n1 f.c1, .bool f.b2, .slice f.a2 f.n2 f.c2]) x))
theorem readF_nfK {s : List UInt8} {x : Rat} (h : readF s = some x) : nf x ≤ s.length := by
 have ht := text_readF h
 have h1 := readI_nl (readI_itoa x.num)
 have h2 := readI_nl (readI_itoa (x.den : Int))
 have h3 : (Lib.itoa (x.den : Int)).length ≤ max 1 s.length ∧ (Lib.itoa x.num).length ≤ s.length := by
  rw [← ht]
  unfold ratText
  by_cases hd : x.den = 1
  ·rw [if_pos hd, hd]
   refine ⟨?_, nR _⟩
   have e1 : Lib.itoa ((1 : Nat) : Int) = [49] := by unfold Lib.itoa; rw [if_neg (by decide), Lib.decDigits, dif_pos (by decide)]; rfl
   rw [e1]
   exact Nat.le_max_left _ _
  ·rw [if_neg hd]
   simp
   omega
 have h4 : 0 < s.length := by
  rw [← ht]
  unfold ratText
  have : 0 < (Lib.itoa x.num).length := by
   unfold Lib.itoa
   split
   ·simp
   ·exact List.length_pos_iff.2 (dec_ne _)
  split
  ·exact this
  ·simp only [List.length_append, List.length_cons]
   omega
 unfold nf
 omega
set_option maxHeartbeats 1600000 in
theorem rratParse_c (s : ByteArray) (w : World) (hs : s.size ≤ 65536) : Calls Tryz.prog 47 #[.string s] w (PFQ w (readF s.data.toList)) := by
 have KR := mK (fun W => rratRead_c s W hs)
 obtain ⟨w1, hw1⟩ : ∃ w1, w1 = w.alloc (.cells #[.bool false, .slice none 0 0, .bool false, .slice none 0 0] 52) := ⟨_, rfl⟩
 have hE1 := mK (show Ext w w1 by rw [hw1]; exact (xR w).al _)
 have z1 := mK (show w1.heap[w.heap.size]? = some (.cells #[.bool false, .slice none 0 0, .bool false, .slice none 0 0] 52 (0, 0)) by rw [hw1]; exact heap_alloc_new _ _)
 replace hw1 := mK hw1
 obtain ⟨o, ho'⟩ : ∃ o, o = readF s.data.toList := ⟨_, rfl⟩
 have hnf : ∀ x, o = some x → nf x ≤ 65536 := fun x h => nT (readF_nfK (ho' ▸ h)) (by rw [list_size]; exact hs)
 rw [← ho'] at KR ⊢
 clear ho'
 have hsI : ¬ (65536 : Int) < s.size := by omega
 cases o with
 | none =>
  clear hnf
  go_enter Tryz.func47, Tryz.ntmps47
  have tok : Tok 0 := .mk _
  go_wp2_with (first
   | (replace tok : Tok 1 := nxT 0 tok; go_at_call 82; rw [← hw1.out]; refine (KR.out w1).mono ?_; rintro e w3 ⟨f, b, rfl, hx, ho⟩; (obtain rfl : b = false := by (rcases ho with ⟨-, h⟩ | ⟨x, h, -⟩; exact h; cases h)); (have hx4 := hx.al (.cells #[.bool f.b1, .slice f.a1 f.n1 f.c1, .bool f.b2, .slice f.a2 f.n2 f.c2] 52)); (have z4 := mK (hx4.blk z1.out)); (have E4 := mK (hE1.out.trans hx4)); clear hx hx4 ho)
   | (replace tok : Tok 2 := nxT 1 tok; refine wpList_store_row rfl 52 (.tmp 2) (.tmp 17) rfl w.heap.size #[.bool false, .slice none 0 0, .bool false, .slice none 0 0] rfl rfl 52 _ z4.out (by kernel_rfl) rfl (by kernel_rfl) ?_))
  refine bodyPost_ret (results_row_tmp rfl _ _ w.heap.size 52 #[.bool false, .slice none 0 0, .bool false, .slice none 0 0] _ _ rfl rfl (setRow_heap _ _ _ _ _ _ z4.out) Tryz.underlying52 rfl (by kernel_rfl)) rfl ?_
  exact ⟨⟨false, none, 0, 0, false, none, 0, 0⟩, 5, rfl, E4.out.row (nR _) _, .inl ⟨rfl, rfl⟩⟩
 | some x =>
  have nx : nf x ≤ 268435456 := nT (hnf x rfl) (by decide)
  clear hnf
  go_enter Tryz.func47, Tryz.ntmps47
  have tok : Tok 0 := .mk _
  go_wp2_with (first
   | (replace tok : Tok 1 := nxT 0 tok; go_at_call 82; rw [← hw1.out]; refine (KR.out w1).mono ?_; rintro e w3 ⟨f, b, rfl, hx, ho⟩; (obtain ⟨rfl, hf⟩ : b = true ∧ FracR w3 (.agg #[.bool f.b1, .slice f.a1 f.n1 f.c1, .bool f.b2, .slice f.a2 f.n2 f.c2]) x := by (rcases ho with ⟨h, -⟩ | ⟨x', h, h2, h3⟩; cases h; cases h; exact ⟨h2, h3⟩)); (obtain ⟨w4, hw4⟩ : ∃ w4, w4 = w3.alloc (.cells #[.bool f.b1, .slice f.a1 f.n1 f.c1, .bool f.b2, .slice f.a2 f.n2 f.c2] 52) := ⟨_, rfl⟩); (have hx4 : Ext w3 w4 := by rw [hw4]; exact (xR w3).al _); (have z4 := mK ((hx.trans hx4).blk z1.out)); (have E4 := mK ((hE1.out.trans hx).trans hx4)); (have hf4 := mK (hf.ext hx4)); replace hw4 := mK hw4; clear hx hx4 ho hf)
   | (replace tok : Tok 2 := nxT 1 tok; go_at_call 83; rw [← hw4.out]; refine (ranswered_f _ x w4 nx hf4.out).mono ?_; rintro e w5 ⟨g, rfl, hx5, hv⟩; (have z5 := mK (hx5.blk z4.out)); (have E5 := mK (E4.out.trans hx5)); (have hv5 := mK (fun h => (hv h).flat z5.out (by simp [flatV]) #[.bool g.b1, .slice g.a1 g.n1 g.c1, .bool g.b2, .slice g.a2 g.n2 g.c2])); clear hx5 hv)
   | (replace tok : Tok 3 := nxT 2 tok; refine wpList_store_row rfl 52 (.tmp 2) (.tmp 20) rfl w.heap.size #[.bool g.b1, .slice g.a1 g.n1 g.c1, .bool g.b2, .slice g.a2 g.n2 g.c2] rfl rfl 52 _ z5.out (by kernel_rfl) rfl (by kernel_rfl) ?_))
  refine bodyPost_ret (results_row_tmp rfl _ _ w.heap.size 52 #[.bool g.b1, .slice g.a1 g.n1 g.c1, .bool g.b2, .slice g.a2 g.n2 g.c2] _ _ rfl rfl (setRow_heap _ _ _ _ _ _ z5.out) Tryz.underlying52 rfl (by kernel_rfl)) rfl ?_
  exact ⟨g, capE x, rfl, E5.out.row (nR _) _, .inr ⟨x, rfl, rfl, hv5.out⟩⟩
theorem infoStrK : (Tryz.prog.info? 9).map (fun i => (i.zero, i.size, i.bytes)) = some (some (.string ⟨#[]⟩), 1, 16) := by kernel_rfl
def strC (ws : List (List UInt8)) : List Value := ws.map fun x => .string ⟨x.toArray⟩
def StrO (w : World) (base : Nat) (v : Value) (ws : List (List UInt8)) : Prop := w.ownsRow base 9 1 v ws.length (strC ws)
def WdA (s : ByteArray) (w1 : World) (t3 t4 t5 : Value) (wr : World) : Prop :=
 ∃ (k at' : Nat) (ws : List (List UInt8)), t5 = .int .i64 k ∧ t4 = .int .i64 at' ∧ StrO wr w1.heap.size t3 ws ∧ Ext w1 wr ∧ ws.length ≤ at' ∧
  (k ≤ s.size ∧ at' ≤ k ∧ wordsL 32 s.data.toList = ws ++ wordsL 32 (s.data.toList.drop at') ∧ (32 : UInt8) ∉ (s.data.toList.drop at').take (k - at') ∨ k = s.size + 1 ∧ at' = s.size + 1 ∧ wordsL 32 s.data.toList = ws)
theorem ext_mid (s : ByteArray) (a k : Nat) : s.extract a k = ⟨((s.data.toList.drop a).take (k - a)).toArray⟩ := by
 apply ByteArray.ext
 apply Array.ext'
 simp
theorem infoStr_parts : ∃ i, Tryz.prog.info? 9 = some i ∧ i.zero = some (.string ⟨#[]⟩) ∧ i.size = 1 ∧ i.bytes = 16 := by
 obtain ⟨i, h⟩ := info_parts infoStrK
 exact ⟨i, h⟩
theorem strO_snoc {w : World} {base : Nat} {v : Value} {ws : List (List UInt8)} {x : List UInt8} {XB : ByteArray} (h : w.ownsRow base 9 1 v (ws.length + 1) (strC ws ++ [.string XB])) (e : x.toArray = XB.data) : StrO w base v (ws ++ [x]) := by
 unfold StrO
 rw [List.length_append, List.length_singleton, show strC (ws ++ [x]) = strC ws ++ [.string XB] by simp only [strC, List.map_append, List.map_cons, List.map_nil]; rw [e]]
 exact h
theorem drop_hit {l : List UInt8} {a k : Nat} (ha : a ≤ k) (hk : k < l.length) : l.drop a = (l.drop a).take (k - a) ++ l[k] :: l.drop (k + 1) := by
 have h := (List.take_append_drop (k - a) (l.drop a)).symm
 rw [List.drop_drop, show a + (k - a) = k by omega, List.drop_eq_getElem_cons hk] at h
 exact h
theorem take_more {l : List UInt8} {a k : Nat} (ha : a ≤ k) (hk : k < l.length) : (l.drop a).take (k + 1 - a) = (l.drop a).take (k - a) ++ [l[k]] := by
 rw [show k + 1 - a = k - a + 1 by omega, List.take_succ_eq_append_getElem (by rw [List.length_drop]; omega), List.getElem_drop]
 congr 2
 simp only [show a + (k - a) = k by omega]
set_option maxHeartbeats 3200000 in
theorem rwords_c (s : ByteArray) (w : World) (hs : s.size ≤ 65536) :
  Calls Tryz.prog 41 #[.string s] w fun e w' => ∃ v, e = .returned v ∧ StrO w' w.heap.size v (wordsL 32 s.data.toList) ∧ Ext w w' := by
 obtain ⟨b0, bi, bz0, bz1, bz2⟩ := infoStr_parts
 obtain ⟨w1, hw1⟩ : ∃ w1 : World, w1 = w := ⟨_, rfl⟩
 have hsl := list_size s
 have st : WdA s w1 (.slice none 0 0) (.int .i64 0) (.int .i64 0) w1 := ⟨0, 0, [], rfl, rfl, World.ownsRow_nil _ _ _ _, xR _, nR _, .inl ⟨Nat.zero_le _, nR _, by simp, by simp⟩⟩
 replace st := mK st
 rw [← hw1]
 clear hw1
 go_enter Tryz.func41, Tryz.ntmps41
 go_wp2_with fail
 go_loopw [3, 4, 5] (fun t3 t4 t5 wr => WdA s w1 t3 t4 t5 wr) (fun _ _ t5 _ => s.size + 1 - (intOf t5).toNat)
 case atStart => exact st.out
 case round =>
  clear st
  obtain ⟨k, at', ws, rfl, rfl, hO, hE, hwl, hcase⟩ := hrel
  obtain ⟨w2, rfl⟩ : ∃ w2 : World, w2 = wr := ⟨_, rfl⟩
  replace hO := mK hO
  replace hE := mK hE
  rcases hcase with ⟨hk, hat, hws, hno⟩ | ⟨rfl, rfl, hws⟩
  ·have hkI : (k : Int) ≤ s.size := by omega
   obtain ⟨XB, hXB⟩ : ∃ XB, XB = s.extract at' k := ⟨_, rfl⟩
   have hX := hXB.symm
   have hXt : ((s.data.toList.drop at').take (k - at')).toArray = XB.data := by rw [hXB, ext_mid]
   by_cases hks : k = s.size
   ·subst hks
    have hlast : wordsL 32 (s.data.toList.drop at') = [(s.data.toList.drop at').take (s.size - at')] := by
     have e : (s.data.toList.drop at').take (s.size - at') = s.data.toList.drop at' := List.take_of_length_le (by rw [List.length_drop]; omega)
     rw [e] at hno ⊢
     exact wordsL_none hno
    rw [hlast] at hws
    replace hws := mK hws
    replace hXB := mK hXB
    replace hXt := mK hXt
    clear hno hlast
    go_wp2_with (at_builtin; refine wpList_append_own_at _ ?yaa ?yab ?yac 78 ?yad w1.heap.size 9 b0 (.string ⟨#[]⟩) 1 16 Tryz.underlying78 bi bz0 bz1 bz2 ?yae ?yaf u3 ws.length (strC ws) ?yah (World.ownsRow.alloc hO.out (.cells #[.string XB] 9)) ⟨w2.heap.size, 0, none⟩ 1 1 [.string XB] ?yai ?yaj ?zaa ?zab ?zac ?zad ?zae ?_; (case yaa => rfl); (case yad => rfl); (case yae => rfl); (case yaf => decide); (case yah => rfl); (case yai => rfl); (case yaj => rfl); (case zaa => intro j u hj; rcases j with _ | j; (simp at hj; subst hj; simp [Addr.add]); (simp at hj)); (case zab => intro u hu; simp at hu; subst hu; rfl); (case zac => unfold maxLen; omega); (case zad => omega); (case zae => have := hE.out.size; rw [World.size_alloc]; omega); intro v7 w7 hown7 hgrow7 _ _; (have hE7 := mK ((hE.out.al (.cells #[.string XB] 9)).gr hgrow7 (fun k e => (World.ownsRow.lt hO.out k e).1))); replace hown7 := mK hown7; clear hgrow7)
    exact ⟨⟨s.size + 1, s.size + 1, _, by go_num, by go_num, strO_snoc hown7.out hXt.out, hE7.out, by rw [List.length_append, List.length_singleton]; omega, .inr ⟨rfl, rfl, hws.out⟩⟩, by simp [intOf] <;> omega⟩
   ·have hlt : k < s.size := by omega
    have hkn : ((k : Int) == (s.size : Int)) = false := by rw [beq_eq_false_iff_ne]; omega
    have hbk := byte_at (D := s) rfl hlt (by omega)
    by_cases h32 : s[k] = 32
    ·have hb1 : (s[k].toNat == 32) = true := by rw [h32]; rfl
     have hb2 : ((s[k].toNat : Int) == 32) = true := by rw [h32]; rfl
     have hd := drop_hit (l := s.data.toList) hat (by omega)
     rw [hbk, h32] at hd
     have hw2 := wordsL_cons (y := s.data.toList.drop (k + 1)) hno
     rw [← hd] at hw2
     rw [hw2, show (s.data.toList.drop at').take (k - at') :: wordsL 32 (s.data.toList.drop (k + 1)) = [(s.data.toList.drop at').take (k - at')] ++ wordsL 32 (s.data.toList.drop (k + 1)) from rfl, ← List.append_assoc] at hws
     replace hws := mK hws
     replace hXB := mK hXB
     replace hXt := mK hXt
     clear hno hd hw2 h32 hbk
     go_wp2_with (at_builtin; refine wpList_append_own_at _ ?yba ?ybb ?ybc 78 ?ybd w1.heap.size 9 b0 (.string ⟨#[]⟩) 1 16 Tryz.underlying78 bi bz0 bz1 bz2 ?ybe ?ybf u3 ws.length (strC ws) ?ybh (World.ownsRow.alloc hO.out (.cells #[.string XB] 9)) ⟨w2.heap.size, 0, none⟩ 1 1 [.string XB] ?ybi ?ybj ?zba ?zbb ?zbc ?zbd ?zbe ?_; (case yba => rfl); (case ybd => rfl); (case ybe => rfl); (case ybf => decide); (case ybh => rfl); (case ybi => rfl); (case ybj => rfl); (case zba => intro j u hj; rcases j with _ | j; (simp at hj; subst hj; simp [Addr.add]); (simp at hj)); (case zbb => intro u hu; simp at hu; subst hu; rfl); (case zbc => unfold maxLen; omega); (case zbd => omega); (case zbe => have := hE.out.size; rw [World.size_alloc]; omega); intro v7 w7 hown7 hgrow7 _ _; (have hE7 := mK ((hE.out.al (.cells #[.string XB] 9)).gr hgrow7 (fun k e => (World.ownsRow.lt hO.out k e).1))); replace hown7 := mK hown7; clear hgrow7)
     exact ⟨⟨k + 1, k + 1, _, by go_num, by go_num, strO_snoc hown7.out hXt.out, hE7.out, by rw [List.length_append, List.length_singleton]; omega, .inl ⟨by omega, nR _, hws.out, by simp⟩⟩, by simp [intOf] <;> omega⟩
    ·have hb1 : (s[k].toNat == 32) = false := by
      rw [beq_eq_false_iff_ne]
      intro e
      exact h32 (UInt8.toNat_inj.1 e)
     have hb2 : ((s[k].toNat : Int) == 32) = false := by
      rw [beq_eq_false_iff_ne]
      intro e
      rw [beq_eq_false_iff_ne] at hb1
      omega
     have hno2 : (32 : UInt8) ∉ (s.data.toList.drop at').take (k + 1 - at') := by
      rw [take_more hat (by omega), hbk]
      simp only [List.mem_append, List.mem_singleton, not_or]
      exact ⟨hno, fun e => h32 e.symm⟩
     replace hws := mK hws
     replace hno2 := mK hno2
     clear hno h32 hbk hX hXB hXt
     go_wp2_with fail
     first
      | exact ⟨⟨k + 1, at', ws, by go_num, rfl, hO.out, hE.out, hwl, .inl ⟨by omega, by omega, hws.out, hno2.out⟩⟩, by simp [intOf] <;> omega⟩
      | ((go_roundw); case measure => (simp [intOf]; omega); case rel => (exact ⟨k + 1, at', ws, by go_num, rfl, hO.out, hE.out, hwl, .inl ⟨by omega, by omega, hws.out, hno2.out⟩⟩))
  ·have hkI : ¬ ((s.size + 1 : Nat) : Int) ≤ s.size := by omega
   replace hws := mK hws
   go_wp2_with fail
   go_ret
   exact ⟨_, rfl, by rw [hws.out]; exact hO.out, hE.out⟩
theorem val_drop_step (l : List Nat) (M : Nat) (h : M < l.length) : val (l.drop M) = l.getD M 0 + 4294967296 * val (l.drop (M + 1)) := by
 rw [List.drop_eq_getElem_cons h]
 simp [val, List.getD_eq_getElem?_getD, h]
theorem val_drop_le : ∀ (l : List Nat) (M : Nat), val (l.drop M) ≤ val l
 | [], M => by simp
 | a :: r, 0 => nR _
 | a :: r, M + 1 => by
  have := val_drop_le r M
  rw [List.drop_succ_cons]
  simp only [val]
  omega
def I64 (l : List Nat) (w1 : World) (t4 t5 : Value) (wr : World) : Prop :=
 ∃ k : Nat, k ≤ l.length ∧ t5 = .int .i64 ((k : Int) - 1) ∧ t4 = .int .u64 ((val (l.drop k) : Nat) : Int) ∧ Ext w1 wr
set_option maxHeartbeats 6400000 in
theorem rint64_c (v : Value) (X : Int) (w : World) (h0 : 0 ≤ X) (h1 : X < 9223372036854775808) (h : IntR w v X) :
  Calls Tryz.prog 80 #[v] w fun e w' => e = .returned (.tuple #[.int .i64 X, .bool true]) ∧ Ext w w' := by
 have hnl : nl X ≤ 2 := by unfold nl; exact lim_length_le (by omega)
 have HA := int_any h
 have hg := good_int (X := X) (by omega)
 have HC := mK (fun W (e : Ext w W) => rcheck_c v (decide (X < 0)) (lim X.natAbs) W (by have : (lim X.natAbs).length = nl X := rfl; omega) (HA.ext e))
 rw [hg, if_pos rfl] at HC
 have H := h
 obtain ⟨s, rfl, a, c, rfl, hcap, hrow⟩ := h
 have hb : decide (X < 0) = false := decide_eq_false (by omega)
 rw [hb] at HC H ⊢
 obtain ⟨l, hl⟩ : ∃ l, l = lim X.natAbs := ⟨_, rfl⟩
 have hvl : (val l : Int) = X := by rw [hl, val_lim]; omega
 have hll : l.length ≤ 2 := by rw [hl]; exact hnl
 have okl : OkL l := by rw [hl]; exact lim_ok _
 rw [← hl] at HC H hrow ⊢
 obtain ⟨wb, hwb⟩ : ∃ wb, wb = w.alloc (.cells #[.bool false, .slice a l.length c] 50) := ⟨_, rfl⟩
 have hE : Ext w wb := by rw [hwb]; exact (xR w).al _
 have c0 : ∀ W, Ext wb W → W.cell? ⟨w.heap.size, 0, none⟩ = some (.bool false) := fun W e => e.cell (by rw [hwb]; go_simp)
 have c1 : ∀ W, Ext wb W → W.cell? ⟨w.heap.size, 1, none⟩ = some (.slice a l.length c) := fun W e => e.cell (by rw [hwb]; go_simp)
 have n1 : nl (-9223372036854775808) ≤ 1073741824 := nT (nl_i64' (by omega) (by omega)) (by decide)
 have n2 : nl 9223372036854775807 ≤ 1073741824 := nT (nl_i64' (by omega) (by omega)) (by decide)
 have nX : nl X ≤ 1073741824 := by omega
 have ho := mK (fun (n : Int) W h0 h1 => rof_c n W h0 h1)
 obtain ⟨S1, hS1⟩ : ∃ S, S = (X - (-9223372036854775808)).sign := ⟨_, rfl⟩
 obtain ⟨S2, hS2⟩ : ∃ S, S = (X - 9223372036854775807).sign := ⟨_, rfl⟩
 have e1 : decide (S1 < 0) = false := by rw [hS1, Int.sign_eq_one_of_pos (by omega)]; decide
 have e2 : decide (0 < S2) = false := by
  rw [hS2]
  rcases Int.lt_or_eq_of_le (show X - 9223372036854775807 ≤ 0 by omega) with h | h
  ·rw [Int.sign_eq_neg_one_of_neg h]
   decide
  ·rw [h]
   decide
 replace hS1 := mK hS1
 replace hS2 := mK hS2
 replace hvl := mK hvl
 replace hE := mK hE
 replace H := mK H
 replace okl := mK okl
 replace hrow := mK hrow
 clear HA hg hnl hcap hb hl
 go_enter Tryz.func80, Tryz.ntmps80
 go_wp2_with fail
 rw [← hwb]
 clear hwb
 apply region_ext [.val (.agg #[.bool false, .slice a l.length c]), .val (.int .i64 0), .val (.bool false), .val (.bool false), .val (.agg #[.bool false, .slice a l.length c]), .pred (fun W v => IntR W v (-9223372036854775808)), .val (.int .i64 S1), .val (.bool false), .val (.bool false), .val (.bool false), .val (.agg #[.bool false, .slice a l.length c]), .pred (fun W v => IntR W v 9223372036854775807), .val (.int .i64 S2), .val (.bool false), .val (.bool false)] (by kernel_rfl)
 case hst =>
  iterate 5 (refine stable_vals _ ?_)
  refine st_intRG _ ?_
  iterate 5 (refine stable_vals _ ?_)
  refine st_intRG _ ?_
  iterate 3 (refine stable_vals _ ?_)
  trivial
 refine ⟨fun W hW _ => by have := c0 W hW; have := c1 W hW; go_simp; first | exact ⟨xR _, rfl⟩ | exact xR _, ?_⟩
 refine ⟨fun W hW _ => ?g1, ?_⟩
 case g1 =>
  go_simp
  refine (HC.out W (hE.out.trans hW)).mono ?_
  rintro e w' ⟨rfl, h1⟩
  exact ⟨rfl, h1⟩
 refine ⟨fun W hW _ => by go_simp; first | exact ⟨xR _, rfl⟩ | exact xR _, ?_⟩
 refine ⟨fun W hW _ => by go_simp; first | exact ⟨xR _, rfl⟩ | exact xR _, ?_⟩
 refine ⟨fun W hW _ => by have := c0 W hW; have := c1 W hW; go_simp; first | exact ⟨xR _, rfl⟩ | exact xR _, ?_⟩
 refine ⟨fun W hW hF => ?g5, fun v5 => ?_⟩
 case g5 =>
  clear hF
  go_simp
  refine (ho.out _ W (by omega) (by omega)).mono ?_
  rintro e w' ⟨v, rfl, k1, k2⟩
  exact ⟨v, rfl, k2, k1⟩
 refine ⟨fun W hW hF => ?g6, ?_⟩
 case g6 =>
  have q5 : IntR W v5 (-9223372036854775808) := hF.1 (by kernel_rfl)
  replace q5 := mK q5
  clear hF
  go_simp
  refine (rcmpI_c _ _ X (-9223372036854775808) W nX n1 (H.out.ext (hE.out.trans hW)) q5.out).mono ?_
  rintro e w' ⟨rfl, k1⟩
  rw [← hS1.out]
  exact ⟨rfl, k1⟩
 refine ⟨fun W hW _ => by go_simp; first | exact ⟨xR _, rfl⟩ | exact xR _ | exact ⟨xR _, by rw [e1]⟩ | exact ⟨xR _, e1⟩, ?_⟩
 refine ⟨fun W hW _ => by go_simp; first | exact ⟨xR _, rfl⟩ | exact xR _, ?_⟩
 refine ⟨fun W hW _ => by go_simp; first | exact ⟨xR _, rfl⟩ | exact xR _, ?_⟩
 refine ⟨fun W hW _ => by have := c0 W hW; have := c1 W hW; go_simp; first | exact ⟨xR _, rfl⟩ | exact xR _, ?_⟩
 refine ⟨fun W hW hF => ?g11, fun v11 => ?_⟩
 case g11 =>
  clear hF
  go_simp
  refine (ho.out _ W (by omega) (by omega)).mono ?_
  rintro e w' ⟨v, rfl, k1, k2⟩
  exact ⟨v, rfl, k2, k1⟩
 refine ⟨fun W hW hF => ?g12, ?_⟩
 case g12 =>
  have q11 : IntR W v11 9223372036854775807 := hF.1 (by kernel_rfl)
  replace q11 := mK q11
  clear hF
  go_simp
  refine (rcmpI_c _ _ X 9223372036854775807 W nX n2 (H.out.ext (hE.out.trans hW)) q11.out).mono ?_
  rintro e w' ⟨rfl, k1⟩
  rw [← hS2.out]
  exact ⟨rfl, k1⟩
 refine ⟨fun W hW _ => by go_simp; first | exact ⟨xR _, rfl⟩ | exact xR _ | exact ⟨xR _, by rw [e2]⟩ | exact ⟨xR _, e2⟩, ?_⟩
 refine ⟨fun W hW _ => by go_simp; first | exact ⟨xR _, rfl⟩ | exact xR _, fun W hW hF => ?fin⟩
 case fin =>
  clear hF e1 e2 HC n1 n2 nX ho
  have d0 := c0 W hW
  have d1 := c1 W hW
  have D0 := mK (fun V (e : Ext W V) => e.cell d0)
  have D1 := mK (fun V (e : Ext W V) => e.cell d1)
  have hEW := mK (hE.out.trans hW)
  replace hrow := mK (hrow.out.ext hEW.out)
  clear c0 c1 hW
  have st : I64 l W (.int .u64 0) (.int .i64 ((l.length : Int) - 1)) W := ⟨l.length, nR _, rfl, by rw [List.drop_length]; rfl, xR _⟩
  replace st := mK st
  go_simp
  go_wp2_with fail
  clear d0 d1
  go_loopw [4, 5] (fun t4 t5 wr => I64 l W t4 t5 wr) (fun _ t5 _ => (intOf t5 + 1).toNat)
  case atStart => exact st.out
  case round =>
   clear st
   obtain ⟨k, hk, rfl, rfl, hEr⟩ := hrel
   obtain ⟨w2, rfl⟩ : ∃ w2 : World, w2 = wr := ⟨_, rfl⟩
   have d0 := D0.out w2 hEr
   have d1 := D1.out w2 hEr
   cases k with
   | zero =>
    rw [show ((((0 : Nat) : Int)) - 1) = -1 from rfl, List.drop_zero, hvl.out]
    replace hEr := mK hEr
    go_wp2_with fail
    go_ret2
    exact ⟨rfl, hEW.out.trans hEr.out⟩
   | succ M =>
    rw [show (((M + 1 : Nat) : Int) - 1) = (M : Int) by omega]
    have hMl : M < l.length := by omega
    obtain ⟨b, off, ha, hcl⟩ := hrow.out.ext hEr
    obtain rfl := ha (limV_ne (k := 0) (by omega))
    have cP := row_at hcl hMl
    have hp := okL_get okl.out M
    have hstep := val_drop_step l M hMl
    have hle := val_drop_le l M
    have hvX : val l < 9223372036854775808 := by have := hvl.out; omega
    obtain ⟨V, hV⟩ : ∃ V, V = val (l.drop (M + 1)) := ⟨_, rfl⟩
    obtain ⟨p, hpp⟩ : ∃ p, p = l.getD M 0 := ⟨_, rfl⟩
    rw [← hpp] at cP hp hstep
    rw [← hV] at hstep ⊢
    have hb : (V : Int) * 4294967296 + (p : Int) < 9223372036854775808 := by omega
    have hb0 : (V : Int) * 4294967296 < 9223372036854775808 := by omega
    have hnew : I64 l W (.int .u64 ((V : Int) * 4294967296 + (p : Int))) (.int .i64 ((M : Int) - 1)) w2 := ⟨M, by omega, rfl, by congr 1; omega, hEr⟩
    replace hnew := mK hnew
    replace hEr := mK hEr
    replace hV := mK hV
    replace hpp := mK hpp
    clear hstep hle hvX hcl ha
    go_wp2_with fail
    first
     | exact ⟨hnew.out, by simp [intOf] <;> omega⟩
     | ((go_roundw); case measure => (simp [intOf] <;> omega); case rel => (exact hnew.out))
end Go.Proofs.YtjelnmokcpoofaaGreatDoor
namespace Go.Proofs.YtjelnmokcpoofaaGreatDoor
set_option maxRecDepth 100000
open Go Go.RowKit Go.Proofs Go.Lib
theorem numB_some {s : List UInt8} {n : Int} (h : numB s = some n) : s.length ≤ 10 ∧ itoa n = s ∧ 0 ≤ n := by
 unfold numB at h
 split at h
 ·split at h
  ·rename_i hc
   cases h
   exact hc
  ·cases h
 ·cases h
theorem numB_bad {s : List UInt8} (h : s = [] ∨ 10 < s.length ∨ s.head? = some 45) : numB s = none := by
 cases hn : numB s with
 | none => rfl
 | some n =>
  obtain ⟨h1, h2, h3⟩ := numB_some hn
  have hd : itoa n = decDigits n.toNat := by unfold itoa; rw [if_neg (by omega)]
  rcases h with h | h | h
  ·rw [h, hd] at h2
   exact absurd h2 (dec_ne _)
  ·omega
  ·rw [← h2, hd] at h
   exact absurd h (dec_head45 _)
theorem numB_read {s : List UInt8} (h1 : s.length ≤ 10) (h2 : s.head? ≠ some 45) : numB s = readI s ∧ ∀ X, readI s = some X → 0 ≤ X ∧ X < 10000000000 := by
 have hpos : ∀ X, readI s = some X → 0 ≤ X := fun X hX => by
  have hi := itoa_readI hX
  refine Classical.byContradiction fun hn => h2 ?_
  rw [← hi]
  unfold itoa
  rw [if_pos (by omega)]
  rfl
 refine ⟨?_, fun X hX => ⟨hpos X hX, ?_⟩⟩
 ·cases hX : readI s with
  | none =>
   cases hn : numB s with
   | none => rfl
   | some n =>
    have := readI_itoa n
    rw [(numB_some hn).2.1, hX] at this
    cases this
  | some X =>
   have hi := itoa_readI hX
   have ha := atoi_itoa (hpos X hX)
   rw [hi] at ha
   unfold numB
   rw [ha]
   show (if s.length ≤ 10 ∧ itoa X = s ∧ 0 ≤ X then some X else none) = some X
   rw [if_pos ⟨h1, hi, hpos X hX⟩]
 ·have hi := itoa_readI hX
  have hd : decDigits X.natAbs = s := by
   have h0 := hpos X hX
   rw [← hi]
   unfold itoa
   rw [if_neg (by omega), show X.natAbs = X.toNat by omega]
  have hlt := Lib.decFrom_lt _ _ _ (decFrom_dec X.natAbs)
  rw [hd] at hlt
  have : 10 ^ s.length ≤ 10 ^ 10 := Nat.pow_le_pow_right (by omega) h1
  omega
set_option maxHeartbeats 1600000 in
theorem rnumber_c (s : ByteArray) (w : World) (hs : s.size ≤ 65536) :
  Calls Tryz.prog 44 #[.string s] w fun e w' => e = .returned (.tuple #[.int .i64 ((numB s.data.toList).getD 0), .bool (numB s.data.toList).isSome]) ∧ Ext w w' := by
 have hsl : s.data.toList.length = s.size := Array.length_toList
 obtain ⟨R1, hR1⟩ : ∃ R, R = (numB s.data.toList).getD 0 := ⟨_, rfl⟩
 obtain ⟨R2, hR2⟩ : ∃ R, R = (numB s.data.toList).isSome := ⟨_, rfl⟩
 rw [← hR1, ← hR2]
 have hbad : numB s.data.toList = none → R1 = 0 ∧ R2 = false := fun h => by rw [hR1, hR2, h]; exact ⟨rfl, rfl⟩
 by_cases c1 : s.size = 0
 ·obtain ⟨rfl, rfl⟩ := hbad (numB_bad (.inl (List.eq_nil_of_length_eq_zero (by omega))))
  clear hbad hR1 hR2 hsl
  go_enter Tryz.func44, Tryz.ntmps44
  go_wp2_with fail
  go_ret2
  exact ⟨rfl, xR _⟩
 ·have k0 : 0 < s.size := by omega
  have k1 : ¬ (s.size : Int) < 1 := by omega
  by_cases c2 : 10 < s.size
  ·obtain ⟨rfl, rfl⟩ := hbad (numB_bad (.inr (.inl (by omega))))
   have k2 : (10 : Int) < s.size := by omega
   clear hbad hR1 hR2 hsl
   go_enter Tryz.func44, Tryz.ntmps44
   go_wp2_with fail
   go_ret2
   exact ⟨rfl, xR _⟩
  ·have k2 : ¬ (10 : Int) < s.size := by omega
   have hh := first_byte (D := s) rfl k0
   by_cases h45 : s[0] = 45
   ·have e45 : (s[0].toNat == 45) = true := by rw [h45]; rfl
    have e45' : ((s[0].toNat : Int) == 45) = true := by rw [h45]; rfl
    obtain ⟨rfl, rfl⟩ := hbad (numB_bad (.inr (.inr (by rw [hh, h45]))))
    clear hbad hR1 hR2 hsl hh h45
    go_enter Tryz.func44, Tryz.ntmps44
    go_wp2_with fail
    go_ret2
    exact ⟨rfl, xR _⟩
   ·have e45 : (s[0].toNat == 45) = false := by
     rw [beq_eq_false_iff_ne]
     intro e
     exact h45 (UInt8.toNat_inj.1 e)
    have e45' : ((s[0].toNat : Int) == 45) = false := by
     rw [beq_eq_false_iff_ne]
     intro e
     rw [beq_eq_false_iff_ne] at e45
     omega
    obtain ⟨q1, q2⟩ := numB_read (s := s.data.toList) (by omega) (by rw [hh]; intro e; exact h45 (Option.some.inj e))
    rw [q1] at hR1 hR2
    have KR := mK (fun W => rread_c s W hs)
    obtain ⟨o, ho'⟩ : ∃ o, o = readI s.data.toList := ⟨_, rfl⟩
    rw [← ho'] at hR1 hR2 KR q2
    clear ho' q1 hbad hsl hh h45
    have hXo : ∃ X : Int, 0 ≤ X ∧ X < 9223372036854775808 ∧ R1 = X ∧ ∀ (b : Bool) (x : Int), (o = some x ∧ b = true ∨ o = none ∧ b = false ∧ x = 0) → x = X ∧ b = R2 := by
     cases o with
     | none => exact ⟨0, by omega, by omega, hR1, fun b x h => by rcases h with ⟨h, -⟩ | ⟨-, h1, h2⟩; cases h; exact ⟨h2, h1.trans hR2.symm⟩⟩
     | some Y =>
      have := q2 Y rfl
      exact ⟨Y, this.1, by omega, hR1, fun b x h => by rcases h with ⟨h, h1⟩ | ⟨h, -⟩; exact ⟨(Option.some.inj h).symm, h1.trans hR2.symm⟩; cases h⟩
    obtain ⟨X, x0, x1, rfl, hX⟩ := hXo
    replace hX := mK hX
    clear hR1 hR2 q2
    cases R2 with
    | false =>
     go_enter Tryz.func44, Tryz.ntmps44
     have tok : Tok 0 := .mk _
     go_wp2_with (first
      | (replace tok : Tok 1 := nxT 0 tok; go_at_call 79; refine (KR.out w).mono ?_; rintro e w3 ⟨v, b, x, rfl, ho, hv, hx⟩; (obtain ⟨rfl, rfl⟩ := hX.out b x ho); (obtain ⟨nb, na, nn, nc, rfl⟩ := hv.shape); (obtain ⟨w4, hw4⟩ : ∃ w4, w4 = w3.alloc (.cells #[.bool nb, .slice na nn nc] 50) := ⟨_, rfl⟩); (have hx4 : Ext w3 w4 := by rw [hw4]; exact (xR w3).al _); (have E4 := mK (hx.trans hx4)); (have hv4 := mK (hv.ext hx4)); replace hw4 := mK hw4; clear hx hx4 hv ho)
      | (replace tok : Tok 2 := nxT 1 tok; go_at_call 80; rw [← hw4.out]; refine (rint64_c _ _ w4 x0 x1 hv4.out).mono ?_; rintro e w5 ⟨rfl, hx5⟩; (have E5 := mK (E4.out.trans hx5)); clear hx5))
     go_ret2
     exact ⟨rfl, E5.out⟩
    | true =>
     go_enter Tryz.func44, Tryz.ntmps44
     have tok : Tok 0 := .mk _
     go_wp2_with (first
      | (replace tok : Tok 1 := nxT 0 tok; go_at_call 79; refine (KR.out w).mono ?_; rintro e w3 ⟨v, b, x, rfl, ho, hv, hx⟩; (obtain ⟨rfl, rfl⟩ := hX.out b x ho); (obtain ⟨nb, na, nn, nc, rfl⟩ := hv.shape); (obtain ⟨w4, hw4⟩ : ∃ w4, w4 = w3.alloc (.cells #[.bool nb, .slice na nn nc] 50) := ⟨_, rfl⟩); (have hx4 : Ext w3 w4 := by rw [hw4]; exact (xR w3).al _); (have E4 := mK (hx.trans hx4)); (have hv4 := mK (hv.ext hx4)); replace hw4 := mK hw4; clear hx hx4 hv ho)
      | (replace tok : Tok 2 := nxT 1 tok; go_at_call 80; rw [← hw4.out]; refine (rint64_c _ _ w4 x0 x1 hv4.out).mono ?_; rintro e w5 ⟨rfl, hx5⟩; (have E5 := mK (E4.out.trans hx5)); clear hx5))
     go_ret2
     exact ⟨rfl, E5.out⟩
end Go.Proofs.YtjelnmokcpoofaaGreatDoor
namespace Go.Proofs.YtjelnmokcpoofaaGreatDoor
set_option maxRecDepth 100000
open Go Go.RowKit Go.Proofs
def RLineE (w : World) (c : Int) (e : Ending) (w' : World) : Prop := e = .returned (.tuple #[.agg #[.string ⟨#[]⟩, .int .u8 0, .bool false, .slice none 0 0, .bool false, .slice none 0 0, .bool false, .slice none 0 0, .bool false, .slice none 0 0, .int .i64 0], .int .i64 c]) ∧ Ext w w'
theorem StrO.at_ {w : World} {base : Nat} {v : Value} {ws : List (List UInt8)} (h : StrO w base v ws) (hl : 0 < ws.length) : ∃ g c, v = .slice (some ⟨g, 0, none⟩) ws.length c ∧ base ≤ g ∧ ∀ j, j < ws.length → w.cell? ⟨g, j, none⟩ = some (.string ⟨(ws.getD j []).toArray⟩) := by
 have h' := h
 rcases h.2 with ⟨_, h0⟩ | ⟨g, cap, cur, e, h2, h3, _⟩
 ·omega
 ·refine ⟨g, cap, e, h2, fun j hj => ?_⟩
  rw [e] at h'
  unfold StrO at h'
  rw [World.ownsRow.cellAt h' j (by omega)]
  simp [strC, List.getD_eq_getElem?_getD, hj]
theorem rword_zero (w : World) : Calls Tryz.prog 43 #[.int .u8 0] w fun e w' => e = .returned (.tuple #[.string ⟨#[102, 108, 105, 112]⟩, .int .i64 0]) ∧ w = w' := by
 go_enter Tryz.func43, Tryz.ntmps43
 go_wp2_with fail
 go_ret2
 exact ⟨rfl, rfl⟩
theorem words_count (c : UInt8) : ∀ l : List UInt8, (wordsL c l).length ≤ l.length + 1
 | [] => by simp [wordsL]
 | b :: r => by
  have ih := words_count c r
  unfold wordsL
  by_cases hb : b = c
  ·rw [if_pos hb, List.length_cons, List.length_cons]
   omega
  ·rw [if_neg hb]
   simp only [List.length_cons, List.length_tail]
   omega
theorem frac_bad (s : ByteArray) (c : Int) (W : World) (hs : s.size ≤ 65536) (h : fracL true s.data.toList = .error c) :
  Calls Tryz.prog 47 #[.string s] W fun e w' => ∃ f : FV, e = .returned (.tuple #[.agg #[.bool f.b1, .slice f.a1 f.n1 f.c1, .bool f.b2, .slice f.a2 f.n2 f.c2], .int .i64 c]) ∧ Ext W w' := by
 refine (rratParse_c s W hs).mono ?_
 rintro e w' ⟨f, c', rfl, hx, ho⟩
 unfold fracL at h
 rw [if_pos rfl] at h
 rcases ho with ⟨h1, rfl⟩ | ⟨x, h1, rfl, -⟩
 ·rw [h1] at h
  cases h
  exact ⟨f, rfl, hx⟩
 ·rw [h1] at h
  simp only at h
  split at h
  ·cases h
  ·rename_i hn
   cases h
   exact ⟨f, by unfold capE; rw [if_neg hn], hx⟩
theorem frac_okK (s : ByteArray) (p : Rat) (W : World) (hs : s.size ≤ 65536) (h : fracL true s.data.toList = .ok p) :
  Calls Tryz.prog 47 #[.string s] W fun e w' => ∃ f : FV, e = .returned (.tuple #[.agg #[.bool f.b1, .slice f.a1 f.n1 f.c1, .bool f.b2, .slice f.a2 f.n2 f.c2], .int .i64 0]) ∧ Ext W w' ∧ FracR w' (.agg #[.bool f.b1, .slice f.a1 f.n1 f.c1, .bool f.b2, .slice f.a2 f.n2 f.c2]) p := by
 refine (rratParse_c s W hs).mono ?_
 rintro e w' ⟨f, c', rfl, hx, ho⟩
 unfold fracL at h
 rw [if_pos rfl] at h
 rcases ho with ⟨h1, rfl⟩ | ⟨x, h1, rfl, h3⟩
 ·rw [h1] at h
  cases h
 ·rw [h1] at h
  simp only at h
  split at h
  ·rename_i hn
   cases h
   exact ⟨f, by unfold capE; rw [if_pos hn], hx, h3 hn⟩
  ·cases h
theorem kindL_range {l : List UInt8} {k : Int} (h : kindL l = some k) : 1 ≤ k ∧ k ≤ 5 := by
 unfold kindL at h
 repeat' split at h
 all_goals first
  | (cases h; omega)
  | cases h
theorem st_varK {ss : List FSpec} (b : Nat) (cs : Array Value) (T : TypeId) (h : StableAll Ext ss) : StableAll Ext (.pred (VarAt b cs T) :: ss) := ⟨fun _ _ _ e h => VarAt.ext h e, h⟩
def f32V : Value → Bool
 | .int .u32 _ => false
 | _ => true
theorem Row.f32 {w : World} {a : Option Addr} {l : List Nat} {g T : Nat} {fr : Nat × Nat} {old : Array Value} (h : Row w a (limV l)) (hg : w.heap[g]? = some (.cells old T fr)) (ho : old.all f32V = true) (cs : Array Value) : Row (w.setRow g cs) a (limV l) := by
 obtain ⟨b, off, h1, h2⟩ := h
 refine ⟨b, off, h1, fun j hj => ?_⟩
 have hc := h2 j hj
 have hne : b ≠ g := by
  rintro rfl
  rw [limV_getD _ _ (by rw [limV_length] at hj; exact hj)] at hc
  have hc2 : old[off + j]? = some (.int .u32 ((l.getD j 0 : Nat) : Int)) := by
   simp only [World.cell?, hg] at hc
   simpa using hc
  obtain ⟨hlt, he⟩ := Array.getElem?_eq_some_iff.1 hc2
  have := Array.all_eq_true.1 ho _ hlt
  rw [he] at this
  cases this
 have : ((w.setRow g cs).heap[b]?) = w.heap[b]? := setRow_other _ _ _ _ hne
 simp only [World.cell?, this] at hc ⊢
 exact hc
theorem IntR.f32 {w : World} {v : Value} {x : Int} {g T : Nat} {fr : Nat × Nat} {old : Array Value} (h : IntR w v x) (hg : w.heap[g]? = some (.cells old T fr)) (ho : old.all f32V = true) (cs : Array Value) : IntR (w.setRow g cs) v x := by
 obtain ⟨s, h1, a, c, h2, h3, r⟩ := h
 exact ⟨s, h1, a, c, h2, h3, r.f32 hg ho cs⟩
theorem FracR.f32 {w : World} {v : Value} {q : Rat} {g T : Nat} {fr : Nat × Nat} {old : Array Value} (h : FracR w v q) (hg : w.heap[g]? = some (.cells old T fr)) (ho : old.all f32V = true) (cs : Array Value) : FracR (w.setRow g cs) v q := by
 obtain ⟨b1, a1, n1, c1, b2, a2, n2, c2, h1, h2, h3⟩ := h
 exact ⟨b1, a1, n1, c1, b2, a2, n2, c2, h1, h2.f32 hg ho cs, h3.f32 hg ho cs⟩
end Go.Proofs.YtjelnmokcpoofaaGreatDoor
