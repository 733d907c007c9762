/-
  catalog: number, read of two lines, Parse of one text (that which law25's alive asks). catalog: Parse of the one text that law25's alive asks. law25: alive. law01: ElementCost, PartsCost; law25: fits. SamePart of two parts that are the same. law01: SameParts of two lists of the same parts. law25: what CatalogHolds rests on: lists that came in, read; lists that are told, read. law25: CatalogHolds, walked: printed by tools/gen_holds.py. The nearest lens is the least: no lens comes before it by distance, then cost, then name.
-/
import Derived.Test.YtkkfgphcmnhabaaGreatDoorKAL
import Derived.Test.YtkkfgphcmnhabaaGreatDoorKAK
import Derived.Test.YtkkfgphcmnhabaaGreatDoorKAE
import Derived.Test.YtkkfgphcmnhabaaGreatDoorKAI
import Derived.Lib.SmallJoins
import Derived.Test.YtkkfgphcmnhabaaGreatDoorKAG
import Derived.Test.YtkkfgphcmnhabaaGreatDoorKAH
import Derived.StringKeys
import Derived.WideKeyEntry
import Derived.OwnWalk
import Derived.LoopN
import Derived.Test.YtkkfgphcmnhabaaGreatDoorKAJ
namespace Go.Proofs.YtkkfgphcmnhabaaGreatDoor
set_option maxRecDepth 100000
open Go Go.RowKit Go.Proofs
/-- The library's one number for an index (internal/bytealg.MaxLen) is there. -/
def Max0 (w : World) : Prop := ∃ m : Int, w.cell? ⟨0, 0, none⟩ = some (.int .i64 m)
theorem Max0.ext {w w' : World} (h : Max0 w) (e : Ext w w') : Max0 w' := by
  obtain ⟨m, hm⟩ := h
  exact ⟨m, e.cell hm⟩
theorem number_one (w : World) : Calls Tryz.prog 89 #[.string ⟨#[49]⟩] w fun e w' => e = .returned (.tuple #[.int .i64 1, .bool true]) ∧ Ext w w' := by
  have KA := mkHid (fun W => Tryz.strconv_Atoi ⟨#[49]⟩ 1 (by decide) (by kernel_rfl) W)
  have KI := mkHid (fun W => Tryz.strconv_Itoa_small 1 (by decide) W)
  have e0 : (⟨(Lib.decDigits 1).toArray⟩ : ByteArray) = ⟨#[49]⟩ := by kernel_rfl
  rw [e0] at KI
  have hb : ((⟨#[49]⟩ : ByteArray).toList == (⟨#[49]⟩ : ByteArray).toList) = true := by simp
  replace e0 := mkHid e0
  go_enter Tryz.func89, Tryz.ntmps89
  have tok : Tok 0 := .mk _
  go_wp2_with (first
    | ((have _t : Tok 0 := tok); clear _t; clear tok; (have tok : Tok 1 := .mk _); go_at_call 119; refine (KA.out _).mono ?_; rintro e w1 ⟨rfl, t, hw⟩; (have hE : Ext w w1 := by rw [hw]; exact Joins.below_bytesWorld _ _ _ _ (Nat.le_refl _)); clear hw; replace hE := mkHid hE)
    | ((have _t : Tok 1 := tok); clear _t; clear tok; (have tok : Tok 2 := .mk _); go_at_call 54; refine (KI.out _).mono ?_; rintro e w2 ⟨rfl, rfl⟩))
  go_ret2
  exact ⟨rfl, hE.out⟩
/-- A flip, as read tells it. -/
def FlipP (nm : ByteArray) (w : World) (v : Value) : Prop := ∃ p q : FV, v = .agg #[.string nm, .int .u8 5, .bool p.b1, .slice p.a1 p.n1 p.c1, .bool p.b2, .slice p.a2 p.n2 p.c2, .bool q.b1, .slice q.a1 q.n1 q.c1, .bool q.b2, .slice q.a2 q.n2 q.c2, .int .i64 1] ∧ FracR w (.agg #[.bool p.b1, .slice p.a1 p.n1 p.c1, .bool p.b2, .slice p.a2 p.n2 p.c2]) 0 ∧ FracR w (.agg #[.bool q.b1, .slice q.a1 q.n1 q.c1, .bool q.b2, .slice q.a2 q.n2 q.c2]) 0
set_option maxRecDepth 100000 in
set_option maxHeartbeats 6400000 in
theorem read_b (w : World) (hm : Max0 w) : Calls Tryz.prog 59 #[.string ⟨#[98, 32, 49, 32, 102, 108, 105, 112]⟩] w fun e w' => ∃ v, e = .returned (.tuple #[v, .int .i64 0]) ∧ FlipP ⟨#[98]⟩ w' v ∧ Ext w w' := by
  obtain ⟨w1, hw1⟩ : ∃ w1, w1 = w.alloc (.cells #[.string ⟨#[]⟩, .int .u8 0, .bool false, .slice none 0 0, .bool false, .slice none 0 0, .bool false, .slice none 0 0, .bool false, .slice none 0 0, .int .i64 0] 38) := ⟨_, rfl⟩
  have hE1 : Ext w w1 := by rw [hw1]; exact (Ext.refl w).al _
  have zP1 : w1.heap[w.heap.size]? = some (.cells #[.string ⟨#[]⟩, .int .u8 0, .bool false, .slice none 0 0, .bool false, .slice none 0 0, .bool false, .slice none 0 0, .bool false, .slice none 0 0, .int .i64 0] 38 (0, 0)) := by rw [hw1]; exact heap_alloc_new _ _
  have hsz1 : w1.heap.size = w.heap.size + 1 := by rw [hw1]; simp
  obtain ⟨mx, hmx⟩ := hm.ext hE1
  have KS := Tryz.strings_Split ⟨#[98, 32, 49, 32, 102, 108, 105, 112]⟩ ⟨#[32]⟩ mx w1 (by decide) hmx (by decide)
  have ec : Lib.countB ⟨#[98, 32, 49, 32, 102, 108, 105, 112]⟩ ⟨#[32]⟩ = 2 := by kernel_rfl
  rw [ec] at KS
  have es : Lib.splitB ⟨#[32]⟩ 0 2 ⟨#[98, 32, 49, 32, 102, 108, 105, 112]⟩ = [⟨#[98]⟩, ⟨#[49]⟩, ⟨#[102, 108, 105, 112]⟩] := by kernel_rfl
  rw [es] at KS
  obtain ⟨w2, hw2⟩ : ∃ w2, w2 = w1.alloc (.cells (([⟨#[98]⟩, ⟨#[49]⟩, ⟨#[102, 108, 105, 112]⟩] : List ByteArray).map Value.string).toArray 9) := ⟨_, rfl⟩
  have hE2 : Ext w1 w2 := by rw [hw2]; exact (Ext.refl w1).al _
  have zS2 : w2.heap[w.heap.size + 1]? = some (.cells #[.string ⟨#[98]⟩, .string ⟨#[49]⟩, .string ⟨#[102, 108, 105, 112]⟩] 9 (0, 0)) := by rw [hw2, ← hsz1]; exact heap_alloc_new _ _
  have zP2 := hE2.blk zP1
  have hsz2 : w2.heap.size = w.heap.size + 2 := by rw [hw2]; simp [hsz1]
  have KN := mkHid (fun W => nought_f W)
  have K1 := mkHid (fun W => word_c 1 W)
  have K2 := mkHid (fun W => word_c 2 W)
  have K3 := mkHid (fun W => word_c 3 W)
  have K4 := mkHid (fun W => word_c 4 W)
  have K5 := mkHid (fun W => word_c 5 W)
  have KU := mkHid (fun W => number_one W)
  have KD := mkHid (fun W => named_c ⟨#[98]⟩ W (by decide))
  have en : nameB ((⟨#[98]⟩ : ByteArray).data.toList) = true := by decide
  rw [en] at KD
  have KM := mkHid (fun (W : World) (p q : FV) (h1 : FracR W (.agg #[.bool p.b1, .slice p.a1 p.n1 p.c1, .bool p.b2, .slice p.a2 p.n2 p.c2]) 0) (h2 : FracR W (.agg #[.bool q.b1, .slice q.a1 q.n1 q.c1, .bool q.b2, .slice q.a2 q.n2 q.c2]) 0) => may_v ⟨#[98]⟩ 5 1 p q (some 0) (some 0) W (by have := h1.any (Nat.le_trans nf_none (by decide)); rwa [if_pos nf_none] at this) (by have := h2.any (Nat.le_trans nf_none (by decide)); rwa [if_pos nf_none] at this))
  have em : mayP 5 1 (some 0) (some 0) = true := by decide
  rw [em] at KM
  have q1 : ((⟨(wordB 1).toArray⟩ : ByteArray).toList == [102, 108, 105, 112]) = false := by rw [ByteArray.toList_eq]; decide
  have q2 : ((⟨(wordB 2).toArray⟩ : ByteArray).toList == [102, 108, 105, 112]) = false := by rw [ByteArray.toList_eq]; decide
  have q3 : ((⟨(wordB 3).toArray⟩ : ByteArray).toList == [102, 108, 105, 112]) = false := by rw [ByteArray.toList_eq]; decide
  have q4 : ((⟨(wordB 4).toArray⟩ : ByteArray).toList == [102, 108, 105, 112]) = false := by rw [ByteArray.toList_eq]; decide
  have q5 : ((⟨(wordB 5).toArray⟩ : ByteArray).toList == [102, 108, 105, 112]) = true := by rw [ByteArray.toList_eq]; decide
  have n5 : ((wordN 5 : Nat) : Int) = 0 := by decide
  generalize (⟨(wordB 1).toArray⟩ : ByteArray) = s1 at *
  generalize (⟨(wordB 2).toArray⟩ : ByteArray) = s2 at *
  generalize (⟨(wordB 3).toArray⟩ : ByteArray) = s3 at *
  generalize (⟨(wordB 4).toArray⟩ : ByteArray) = s4 at *
  generalize (⟨(wordB 5).toArray⟩ : ByteArray) = s5 at *
  rw [n5] at K5
  generalize ((wordN 1 : Nat) : Int) = n1 at *
  generalize ((wordN 2 : Nat) : Int) = n2 at *
  generalize ((wordN 3 : Nat) : Int) = n3 at *
  generalize ((wordN 4 : Nat) : Int) = n4 at *
  rw [hsz1, ← hw2] at KS
  replace KS := mkHid KS
  replace hw1 := mkHid hw1
  replace hw2 := mkHid hw2
  replace hE1 := mkHid (hE1.trans hE2)
  replace zP2 := mkHid zP2
  replace zS2 := mkHid zS2
  replace hsz1 := mkHid hsz1
  replace hsz2 := mkHid hsz2
  clear zP1 hE2 hmx hm ec es en em n5
  go_enter Tryz.func59, Tryz.ntmps59
  have tok : Tok 0 := .mk _
  go_wp2_with (first
    | ((have _t : Tok 0 := tok); clear _t; clear tok; (have tok : Tok 1 := .mk _); go_at_call 87; rw [← hw1.out]; refine KS.out.mono ?_; rintro e w' ⟨rfl, rfl⟩)
    | ((have _t : Tok 1 := tok); clear _t; clear tok; (have tok : Tok 2 := .mk _); go_at_call 88; refine (KN.out _).mono ?_; rintro e w3 ⟨vp, rfl, hx3, hp3⟩; (obtain ⟨p, rfl⟩ := hp3.r.fv); (have zP3 := mkHid (hx3.blk zP2.out)); (have zS3 := mkHid (hx3.blk zS2.out)); replace hp3 := mkHid hp3; replace hx3 := mkHid hx3)
    | ((have _t : Tok 2 := tok); clear _t; clear tok; (have tok : Tok 3 := .mk _); go_at_call 88; refine (KN.out _).mono ?_; rintro e w4 ⟨vq, rfl, hx4, hq4⟩; (obtain ⟨q, rfl⟩ := hq4.r.fv); (have zP4 := hx4.blk zP3.out); (have zS4 := hx4.blk zS3.out);
        (obtain ⟨w5, hw5⟩ : ∃ w5, w5 = w4.setRow w.heap.size #[.string ⟨#[]⟩, .int .u8 0, .bool p.b1, .slice p.a1 p.n1 p.c1, .bool p.b2, .slice p.a2 p.n2 p.c2, .bool false, .slice none 0 0, .bool false, .slice none 0 0, .int .i64 0] := ⟨_, rfl⟩);
        (have zP5 := mkHid (show w5.heap[w.heap.size]? = some (.cells #[.string ⟨#[]⟩, .int .u8 0, .bool p.b1, .slice p.a1 p.n1 p.c1, .bool p.b2, .slice p.a2 p.n2 p.c2, .bool false, .slice none 0 0, .bool false, .slice none 0 0, .int .i64 0] 38 (0, 0)) by rw [hw5]; exact setRow_heap _ _ _ _ _ _ zP4));
        (obtain ⟨w6, hw6⟩ : ∃ w6, w6 = w5.setRow w.heap.size #[.string ⟨#[]⟩, .int .u8 0, .bool p.b1, .slice p.a1 p.n1 p.c1, .bool p.b2, .slice p.a2 p.n2 p.c2, .bool q.b1, .slice q.a1 q.n1 q.c1, .bool q.b2, .slice q.a2 q.n2 q.c2, .int .i64 0] := ⟨_, rfl⟩);
        (have zP6 := mkHid (show w6.heap[w.heap.size]? = some (.cells #[.string ⟨#[]⟩, .int .u8 0, .bool p.b1, .slice p.a1 p.n1 p.c1, .bool p.b2, .slice p.a2 p.n2 p.c2, .bool q.b1, .slice q.a1 q.n1 q.c1, .bool q.b2, .slice q.a2 q.n2 q.c2, .int .i64 0] 38 (0, 0)) by rw [hw6]; exact setRow_heap _ _ _ _ _ _ zP5.out));
        (have zS6 := mkHid (show w6.heap[w.heap.size + 1]? = some (.cells #[.string ⟨#[98]⟩, .string ⟨#[49]⟩, .string ⟨#[102, 108, 105, 112]⟩] 9 (0, 0)) by rw [hw6, setRow_other _ _ _ _ (by omega), hw5, setRow_other _ _ _ _ (by omega)]; exact zS4));
        (have hE6 := mkHid (show Ext w w6 by rw [hw6, hw5]; exact (((hE1.out.trans hx3.out).trans hx4).row (Nat.le_refl _) _).row (Nat.le_refl _) _));
        (have hp6 := mkHid (show FracR w6 (.agg #[.bool p.b1, .slice p.a1 p.n1 p.c1, .bool p.b2, .slice p.a2 p.n2 p.c2]) 0 by rw [hw6, hw5]; exact (((hp3.out.ext hx4).row (by rw [hsz2.out]; omega) _).row (by rw [hsz2.out]; omega) _).r));
        (have hq6 := mkHid (show FracR w6 (.agg #[.bool q.b1, .slice q.a1 q.n1 q.c1, .bool q.b2, .slice q.a2 q.n2 q.c2]) 0 by rw [hw6, hw5]; exact ((hq4.row (by have := hx3.out.size; rw [hsz2.out] at this; omega) _).row (by have := hx3.out.size; rw [hsz2.out] at this; omega) _).r));
        (have hqs := mkHid (fun k (h : k ∈ Aloof.blks (.agg #[.bool q.b1, .slice q.a1 q.n1 q.c1, .bool q.b2, .slice q.a2 q.n2 q.c2])) => show w.heap.size + 2 ≤ k by have := (hq4.span k h).1; have h2 := hx3.out.size; rw [hsz2.out] at h2; omega)); replace zP4 := mkHid zP4; replace hw5 := mkHid hw5; replace hw6 := mkHid hw6; clear hx4 hq4 zS4)
    | ((have _t : Tok 3 := tok); clear _t; clear tok; (have tok : Tok 4 := .mk _); refine wpList_store_sub rfl 34 (.tmp 17) (.tmp 14) rfl w.heap.size 2 rfl 38 #[.string ⟨#[]⟩, .int .u8 0, .bool false, .slice none 0 0, .bool false, .slice none 0 0, .bool false, .slice none 0 0, .bool false, .slice none 0 0, .int .i64 0] #[.string ⟨#[]⟩, .int .u8 0, .bool p.b1, .slice p.a1 p.n1 p.c1, .bool p.b2, .slice p.a2 p.n2 p.c2, .bool false, .slice none 0 0, .bool false, .slice none 0 0, .int .i64 0] #[.bool p.b1, .slice p.a1 p.n1 p.c1, .bool p.b2, .slice p.a2 p.n2 p.c2] rfl zP4.out (by kernel_rfl) (by simp) (by kernel_rfl) (by kernel_rfl) ?_; rw [← hw5.out])
    | ((have _t : Tok 4 := tok); clear _t; clear tok; (have tok : Tok 5 := .mk _); refine wpList_store_sub rfl 34 (.tmp 19) (.tmp 15) rfl w.heap.size 6 rfl 38 #[.string ⟨#[]⟩, .int .u8 0, .bool p.b1, .slice p.a1 p.n1 p.c1, .bool p.b2, .slice p.a2 p.n2 p.c2, .bool false, .slice none 0 0, .bool false, .slice none 0 0, .int .i64 0] #[.string ⟨#[]⟩, .int .u8 0, .bool p.b1, .slice p.a1 p.n1 p.c1, .bool p.b2, .slice p.a2 p.n2 p.c2, .bool q.b1, .slice q.a1 q.n1 q.c1, .bool q.b2, .slice q.a2 q.n2 q.c2, .int .i64 0] #[.bool q.b1, .slice q.a1 q.n1 q.c1, .bool q.b2, .slice q.a2 q.n2 q.c2] rfl zP5.out (by kernel_rfl) (by simp) (by kernel_rfl) (by kernel_rfl) ?_; rw [← hw6.out]))
  have hap := mkHid (show w.heap.size ∉ Aloof.blks (.agg #[.bool p.b1, .slice p.a1 p.n1 p.c1, .bool p.b2, .slice p.a2 p.n2 p.c2]) ∧ w.heap.size ∉ Aloof.blks (.agg #[.bool q.b1, .slice q.a1 q.n1 q.c1, .bool q.b2, .slice q.a2 q.n2 q.c2]) from ⟨fun h => by have := (hp3.out.span _ h).1; rw [hsz2.out] at this; omega, fun h => by have := (hqs.out _ h); omega⟩)
  clear tok KS KN hw1 hw2 hw5 hw6 zP2 zP4 zP5 zS2 zS3 zP3 hp3 hx3 hE1
  have c0 : w6.cell? ⟨w.heap.size + 1, 0, none⟩ = some (.string ⟨#[98]⟩) := row16_cells zS6.out 0
  have c1 : w6.cell? ⟨w.heap.size + 1, 1, none⟩ = some (.string ⟨#[49]⟩) := row16_cells zS6.out 1
  have c2 : w6.cell? ⟨w.heap.size + 1, 2, none⟩ = some (.string ⟨#[102, 108, 105, 112]⟩) := row16_cells zS6.out 2
  have d1 : w6.cell? ⟨w.heap.size, 1, none⟩ = some (.int .u8 0) := row16_cells zP6.out 1
  have f1 : w6.frozen? ⟨w.heap.size, 1, none⟩ = false := frozen_of_row _ _ _ _ _ zP6.out
  refine wp_loop_rounds 6 ?_
  rw [rounds_succ]
  go_wp2_with (go_at_call 52; refine (K1.out _).mono ?_; rintro e w' ⟨rfl, rfl⟩)
  rw [rounds_succ]
  go_wp2_with (go_at_call 52; refine (K2.out _).mono ?_; rintro e w' ⟨rfl, rfl⟩)
  rw [rounds_succ]
  go_wp2_with (go_at_call 52; refine (K3.out _).mono ?_; rintro e w' ⟨rfl, rfl⟩)
  rw [rounds_succ]
  go_wp2_with (go_at_call 52; refine (K4.out _).mono ?_; rintro e w' ⟨rfl, rfl⟩)
  rw [rounds_succ]
  go_wp2_with (go_at_call 52; refine (K5.out _).mono ?_; rintro e w' ⟨rfl, rfl⟩)
  obtain ⟨w7, hw7⟩ : ∃ w7, w7 = w6.setCell ⟨w.heap.size, 1, none⟩ (.int .u8 5) := ⟨_, rfl⟩
  rw [← hw7]
  have zP7 := mkHid (show w7.heap[w.heap.size]? = some (.cells #[.string ⟨#[]⟩, .int .u8 5, .bool p.b1, .slice p.a1 p.n1 p.c1, .bool p.b2, .slice p.a2 p.n2 p.c2, .bool q.b1, .slice q.a1 q.n1 q.c1, .bool q.b2, .slice q.a2 q.n2 q.c2, .int .i64 0] 38 (0, 0)) by rw [hw7]; exact heap_setCell_same _ _ _ _ _ _ zP6.out)
  have zS7 := mkHid (show w7.heap[w.heap.size + 1]? = some (.cells #[.string ⟨#[98]⟩, .string ⟨#[49]⟩, .string ⟨#[102, 108, 105, 112]⟩] 9 (0, 0)) by rw [hw7, heap_setCell_other _ _ _ _ (by simp)]; exact zS6.out)
  have hp7 := mkHid (show FracR w7 (.agg #[.bool p.b1, .slice p.a1 p.n1 p.c1, .bool p.b2, .slice p.a2 p.n2 p.c2]) 0 by rw [hw7]; exact hp6.out.near fun k hk => heap_setCell_other _ _ _ _ (fun e => by have e' : k = w.heap.size := e; rw [e'] at hk; exact hap.out.1 hk))
  have hq7 := mkHid (show FracR w7 (.agg #[.bool q.b1, .slice q.a1 q.n1 q.c1, .bool q.b2, .slice q.a2 q.n2 q.c2]) 0 by rw [hw7]; exact hq6.out.near fun k hk => heap_setCell_other _ _ _ _ (fun e => by have e' : k = w.heap.size := e; rw [e'] at hk; exact hap.out.2 hk))
  have hE7 := mkHid (show Ext w w7 by rw [hw7]; exact hE6.out.st (Nat.le_refl _) _)
  clear c0 c1 c2 d1 f1 hw7 zP6 zS6 hp6 hq6 hE6
  have c1 : w7.cell? ⟨w.heap.size + 1, 1, none⟩ = some (.string ⟨#[49]⟩) := row16_cells zS7.out 1
  rw [rounds_succ]
  have tok : Tok 20 := .mk _
  go_wp2_with (first
    | ((have _t : Tok 20 := tok); clear _t; clear tok; (have tok : Tok 21 := .mk _); go_at_call 89; refine (KU.out _).mono ?_; rintro e w8 ⟨rfl, hx8⟩; clear c1; (have zP8 := mkHid (hx8.blk zP7.out)); (have zS8 := mkHid (hx8.blk zS7.out)); (have hp8 := mkHid (hp7.out.ext hx8)); (have hq8 := mkHid (hq7.out.ext hx8)); (have hE8 := mkHid (hE7.out.trans hx8)); (have d10 : w8.cell? ⟨w.heap.size, 10, none⟩ = some (.int .i64 0) := row16_cells zP8.out 10); (have f10 : w8.frozen? ⟨w.heap.size, 10, none⟩ = false := frozen_of_row _ _ _ _ _ zP8.out); (have c0 : w8.cell? ⟨w.heap.size + 1, 0, none⟩ = some (.string ⟨#[98]⟩) := row16_cells zS8.out 0); (have d0 : w8.cell? ⟨w.heap.size, 0, none⟩ = some (.string ⟨#[]⟩) := row16_cells zP8.out 0); (have f0 : w8.frozen? ⟨w.heap.size, 0, none⟩ = false := frozen_of_row _ _ _ _ _ zP8.out); clear hx8)
    | ((have _t : Tok 21 := tok); clear _t; clear tok; (have tok : Tok 22 := .mk _); go_at_call 33;
        (obtain ⟨w9, hw9⟩ : ∃ w9, w9 = (w8.setCell ⟨w.heap.size, 10, none⟩ (.int .i64 1)).setCell ⟨w.heap.size, 0, none⟩ (.string ⟨#[98]⟩) := ⟨_, rfl⟩); rw [← hw9];
        (have zP9 : w9.heap[w.heap.size]? = some (.cells #[.string ⟨#[98]⟩, .int .u8 5, .bool p.b1, .slice p.a1 p.n1 p.c1, .bool p.b2, .slice p.a2 p.n2 p.c2, .bool q.b1, .slice q.a1 q.n1 q.c1, .bool q.b2, .slice q.a2 q.n2 q.c2, .int .i64 1] 38 (0, 0)) := by rw [hw9]; exact heap_setCell_same _ _ _ _ _ _ (heap_setCell_same _ _ _ _ _ _ zP8.out));
        (have hnear : ∀ k, k ≠ w.heap.size → w9.heap[k]? = w8.heap[k]? := fun k hk => by rw [hw9]; exact (heap_setCell_other _ _ _ _ hk).trans (heap_setCell_other _ _ _ _ hk));
        (have hp9 : FracR w9 (.agg #[.bool p.b1, .slice p.a1 p.n1 p.c1, .bool p.b2, .slice p.a2 p.n2 p.c2]) 0 := hp8.out.near fun k hk => hnear k (fun e => by rw [e] at hk; exact hap.out.1 hk));
        (have hq9 : FracR w9 (.agg #[.bool q.b1, .slice q.a1 q.n1 q.c1, .bool q.b2, .slice q.a2 q.n2 q.c2]) 0 := hq8.out.near fun k hk => hnear k (fun e => by rw [e] at hk; exact hap.out.2 hk));
        (have hE9 : Ext w w9 := by rw [hw9]; exact (hE8.out.st (Nat.le_refl _) _).st (Nat.le_refl _) _);
        refine (KD.out _).mono ?_; rintro e w10 ⟨rfl, hx⟩; (have zP10 := mkHid (hx.blk zP9)); (have hp10 := mkHid (hp9.ext hx)); (have hq10 := mkHid (hq9.ext hx)); (have hE10 := mkHid (hE9.trans hx)); clear hx zP9 hp9 hq9 hE9 hnear hw9 d10 f10 c0 d0 f0 zP8 zS8 hp8 hq8 hE8))
  clear tok
  obtain ⟨w11, hw11⟩ : ∃ w11, w11 = w10.alloc (.cells #[.pointer (some ⟨w.heap.size, 2, none⟩), .pointer (some ⟨w.heap.size, 6, none⟩)] 132) := ⟨_, rfl⟩
  rw [← hw11]
  have hx11 : Ext w10 w11 := by rw [hw11]; exact (Ext.refl _).al _
  have zP11 := mkHid (hx11.blk zP10.out)
  have hp11 := mkHid (hp10.out.ext hx11)
  have hq11 := mkHid (hq10.out.ext hx11)
  have hE11 := mkHid (hE10.out.trans hx11)
  clear hx11 hw11 zP10 hp10 hq10 hE10
  refine wp_loop_rounds 1 ?_
  rw [rounds_succ]
  have tok : Tok 30 := .mk _
  go_wp2_with (first
    | ((have _t : Tok 30 := tok); clear _t; clear tok; (have tok : Tok 31 := .mk _); refine wpList_load_row (by rfl) 38 (.tmp 2) rfl w.heap.size rfl 38 #[.string ⟨#[98]⟩, .int .u8 5, .bool p.b1, .slice p.a1 p.n1 p.c1, .bool p.b2, .slice p.a2 p.n2 p.c2, .bool q.b1, .slice q.a1 q.n1 q.c1, .bool q.b2, .slice q.a2 q.n2 q.c2, .int .i64 1] (0, 0) _ zP11.out Tryz.underlying38 rfl (by kernel_rfl) ?_)
    | ((have _t : Tok 31 := tok); clear _t; clear tok; (have tok : Tok 32 := .mk _); go_at_call 34; refine (KM.out _ p q hp11.out hq11.out).mono ?_; rintro e w12 ⟨rfl, hx⟩; (have zP12 := mkHid (hx.blk zP11.out)); (have hp12 := mkHid (hp11.out.ext hx)); (have hq12 := mkHid (hq11.out.ext hx)); (have hE12 := mkHid (hE11.out.trans hx)); clear hx zP11 hp11 hq11 hE11)
    | ((have _t : Tok 32 := tok); clear _t; clear tok; (have tok : Tok 33 := .mk _); refine wpList_load_row (by rfl) 38 (.tmp 2) rfl w.heap.size rfl 38 #[.string ⟨#[98]⟩, .int .u8 5, .bool p.b1, .slice p.a1 p.n1 p.c1, .bool p.b2, .slice p.a2 p.n2 p.c2, .bool q.b1, .slice q.a1 q.n1 q.c1, .bool q.b2, .slice q.a2 q.n2 q.c2, .int .i64 1] (0, 0) _ zP12.out Tryz.underlying38 rfl (by kernel_rfl) ?_)
    | ((have _t : Tok 33 := tok); clear _t; clear tok; (have tok : Tok 34 := .mk _); refine wpList_store_row rfl 38 (.tmp 2) (.tmp 106) rfl w.heap.size #[.string ⟨#[98]⟩, .int .u8 5, .bool p.b1, .slice p.a1 p.n1 p.c1, .bool p.b2, .slice p.a2 p.n2 p.c2, .bool q.b1, .slice q.a1 q.n1 q.c1, .bool q.b2, .slice q.a2 q.n2 q.c2, .int .i64 1] rfl rfl 38 _ zP12.out (by kernel_rfl) rfl (by kernel_rfl) ?_))
  refine bodyPost_ret (results_row_tmp rfl _ _ w.heap.size 38 #[.string ⟨#[98]⟩, .int .u8 5, .bool p.b1, .slice p.a1 p.n1 p.c1, .bool p.b2, .slice p.a2 p.n2 p.c2, .bool q.b1, .slice q.a1 q.n1 q.c1, .bool q.b2, .slice q.a2 q.n2 q.c2, .int .i64 1] _ _ rfl rfl (setRow_heap _ _ _ _ _ _ zP12.out) Tryz.underlying38 rfl (by kernel_rfl)) rfl ?_
  exact ⟨_, rfl, ⟨p, q, rfl, hp12.out.near fun k hk => setRow_other _ _ _ _ (fun e => by have e' : k = w.heap.size := (by omega); rw [e'] at hk; exact hap.out.1 hk), hq12.out.near fun k hk => setRow_other _ _ _ _ (fun e => by have e' : k = w.heap.size := (by omega); rw [e'] at hk; exact hap.out.2 hk)⟩, hE12.out.row (Nat.le_refl _) _⟩
set_option maxRecDepth 100000 in
set_option maxHeartbeats 6400000 in
theorem read_a (w : World) (hm : Max0 w) : Calls Tryz.prog 59 #[.string ⟨#[97, 32, 49, 32, 102, 108, 105, 112]⟩] w fun e w' => ∃ v, e = .returned (.tuple #[v, .int .i64 0]) ∧ FlipP ⟨#[97]⟩ w' v ∧ Ext w w' := by
  obtain ⟨w1, hw1⟩ : ∃ w1, w1 = w.alloc (.cells #[.string ⟨#[]⟩, .int .u8 0, .bool false, .slice none 0 0, .bool false, .slice none 0 0, .bool false, .slice none 0 0, .bool false, .slice none 0 0, .int .i64 0] 38) := ⟨_, rfl⟩
  have hE1 : Ext w w1 := by rw [hw1]; exact (Ext.refl w).al _
  have zP1 : w1.heap[w.heap.size]? = some (.cells #[.string ⟨#[]⟩, .int .u8 0, .bool false, .slice none 0 0, .bool false, .slice none 0 0, .bool false, .slice none 0 0, .bool false, .slice none 0 0, .int .i64 0] 38 (0, 0)) := by rw [hw1]; exact heap_alloc_new _ _
  have hsz1 : w1.heap.size = w.heap.size + 1 := by rw [hw1]; simp
  obtain ⟨mx, hmx⟩ := hm.ext hE1
  have KS := Tryz.strings_Split ⟨#[97, 32, 49, 32, 102, 108, 105, 112]⟩ ⟨#[32]⟩ mx w1 (by decide) hmx (by decide)
  have ec : Lib.countB ⟨#[97, 32, 49, 32, 102, 108, 105, 112]⟩ ⟨#[32]⟩ = 2 := by kernel_rfl
  rw [ec] at KS
  have es : Lib.splitB ⟨#[32]⟩ 0 2 ⟨#[97, 32, 49, 32, 102, 108, 105, 112]⟩ = [⟨#[97]⟩, ⟨#[49]⟩, ⟨#[102, 108, 105, 112]⟩] := by kernel_rfl
  rw [es] at KS
  obtain ⟨w2, hw2⟩ : ∃ w2, w2 = w1.alloc (.cells (([⟨#[97]⟩, ⟨#[49]⟩, ⟨#[102, 108, 105, 112]⟩] : List ByteArray).map Value.string).toArray 9) := ⟨_, rfl⟩
  have hE2 : Ext w1 w2 := by rw [hw2]; exact (Ext.refl w1).al _
  have zS2 : w2.heap[w.heap.size + 1]? = some (.cells #[.string ⟨#[97]⟩, .string ⟨#[49]⟩, .string ⟨#[102, 108, 105, 112]⟩] 9 (0, 0)) := by rw [hw2, ← hsz1]; exact heap_alloc_new _ _
  have zP2 := hE2.blk zP1
  have hsz2 : w2.heap.size = w.heap.size + 2 := by rw [hw2]; simp [hsz1]
  have KN := mkHid (fun W => nought_f W)
  have K1 := mkHid (fun W => word_c 1 W)
  have K2 := mkHid (fun W => word_c 2 W)
  have K3 := mkHid (fun W => word_c 3 W)
  have K4 := mkHid (fun W => word_c 4 W)
  have K5 := mkHid (fun W => word_c 5 W)
  have KU := mkHid (fun W => number_one W)
  have KD := mkHid (fun W => named_c ⟨#[97]⟩ W (by decide))
  have en : nameB ((⟨#[97]⟩ : ByteArray).data.toList) = true := by decide
  rw [en] at KD
  have KM := mkHid (fun (W : World) (p q : FV) (h1 : FracR W (.agg #[.bool p.b1, .slice p.a1 p.n1 p.c1, .bool p.b2, .slice p.a2 p.n2 p.c2]) 0) (h2 : FracR W (.agg #[.bool q.b1, .slice q.a1 q.n1 q.c1, .bool q.b2, .slice q.a2 q.n2 q.c2]) 0) => may_v ⟨#[97]⟩ 5 1 p q (some 0) (some 0) W (by have := h1.any (Nat.le_trans nf_none (by decide)); rwa [if_pos nf_none] at this) (by have := h2.any (Nat.le_trans nf_none (by decide)); rwa [if_pos nf_none] at this))
  have em : mayP 5 1 (some 0) (some 0) = true := by decide
  rw [em] at KM
  have q1 : ((⟨(wordB 1).toArray⟩ : ByteArray).toList == [102, 108, 105, 112]) = false := by rw [ByteArray.toList_eq]; decide
  have q2 : ((⟨(wordB 2).toArray⟩ : ByteArray).toList == [102, 108, 105, 112]) = false := by rw [ByteArray.toList_eq]; decide
  have q3 : ((⟨(wordB 3).toArray⟩ : ByteArray).toList == [102, 108, 105, 112]) = false := by rw [ByteArray.toList_eq]; decide
  have q4 : ((⟨(wordB 4).toArray⟩ : ByteArray).toList == [102, 108, 105, 112]) = false := by rw [ByteArray.toList_eq]; decide
  have q5 : ((⟨(wordB 5).toArray⟩ : ByteArray).toList == [102, 108, 105, 112]) = true := by rw [ByteArray.toList_eq]; decide
  have n5 : ((wordN 5 : Nat) : Int) = 0 := by decide
  generalize (⟨(wordB 1).toArray⟩ : ByteArray) = s1 at *
  generalize (⟨(wordB 2).toArray⟩ : ByteArray) = s2 at *
  generalize (⟨(wordB 3).toArray⟩ : ByteArray) = s3 at *
  generalize (⟨(wordB 4).toArray⟩ : ByteArray) = s4 at *
  generalize (⟨(wordB 5).toArray⟩ : ByteArray) = s5 at *
  rw [n5] at K5
  generalize ((wordN 1 : Nat) : Int) = n1 at *
  generalize ((wordN 2 : Nat) : Int) = n2 at *
  generalize ((wordN 3 : Nat) : Int) = n3 at *
  generalize ((wordN 4 : Nat) : Int) = n4 at *
  rw [hsz1, ← hw2] at KS
  replace KS := mkHid KS
  replace hw1 := mkHid hw1
  replace hw2 := mkHid hw2
  replace hE1 := mkHid (hE1.trans hE2)
  replace zP2 := mkHid zP2
  replace zS2 := mkHid zS2
  replace hsz1 := mkHid hsz1
  replace hsz2 := mkHid hsz2
  clear zP1 hE2 hmx hm ec es en em n5
  go_enter Tryz.func59, Tryz.ntmps59
  have tok : Tok 0 := .mk _
  go_wp2_with (first
    | ((have _t : Tok 0 := tok); clear _t; clear tok; (have tok : Tok 1 := .mk _); go_at_call 87; rw [← hw1.out]; refine KS.out.mono ?_; rintro e w' ⟨rfl, rfl⟩)
    | ((have _t : Tok 1 := tok); clear _t; clear tok; (have tok : Tok 2 := .mk _); go_at_call 88; refine (KN.out _).mono ?_; rintro e w3 ⟨vp, rfl, hx3, hp3⟩; (obtain ⟨p, rfl⟩ := hp3.r.fv); (have zP3 := mkHid (hx3.blk zP2.out)); (have zS3 := mkHid (hx3.blk zS2.out)); replace hp3 := mkHid hp3; replace hx3 := mkHid hx3)
    | ((have _t : Tok 2 := tok); clear _t; clear tok; (have tok : Tok 3 := .mk _); go_at_call 88; refine (KN.out _).mono ?_; rintro e w4 ⟨vq, rfl, hx4, hq4⟩; (obtain ⟨q, rfl⟩ := hq4.r.fv); (have zP4 := hx4.blk zP3.out); (have zS4 := hx4.blk zS3.out);
        (obtain ⟨w5, hw5⟩ : ∃ w5, w5 = w4.setRow w.heap.size #[.string ⟨#[]⟩, .int .u8 0, .bool p.b1, .slice p.a1 p.n1 p.c1, .bool p.b2, .slice p.a2 p.n2 p.c2, .bool false, .slice none 0 0, .bool false, .slice none 0 0, .int .i64 0] := ⟨_, rfl⟩);
        (have zP5 := mkHid (show w5.heap[w.heap.size]? = some (.cells #[.string ⟨#[]⟩, .int .u8 0, .bool p.b1, .slice p.a1 p.n1 p.c1, .bool p.b2, .slice p.a2 p.n2 p.c2, .bool false, .slice none 0 0, .bool false, .slice none 0 0, .int .i64 0] 38 (0, 0)) by rw [hw5]; exact setRow_heap _ _ _ _ _ _ zP4));
        (obtain ⟨w6, hw6⟩ : ∃ w6, w6 = w5.setRow w.heap.size #[.string ⟨#[]⟩, .int .u8 0, .bool p.b1, .slice p.a1 p.n1 p.c1, .bool p.b2, .slice p.a2 p.n2 p.c2, .bool q.b1, .slice q.a1 q.n1 q.c1, .bool q.b2, .slice q.a2 q.n2 q.c2, .int .i64 0] := ⟨_, rfl⟩);
        (have zP6 := mkHid (show w6.heap[w.heap.size]? = some (.cells #[.string ⟨#[]⟩, .int .u8 0, .bool p.b1, .slice p.a1 p.n1 p.c1, .bool p.b2, .slice p.a2 p.n2 p.c2, .bool q.b1, .slice q.a1 q.n1 q.c1, .bool q.b2, .slice q.a2 q.n2 q.c2, .int .i64 0] 38 (0, 0)) by rw [hw6]; exact setRow_heap _ _ _ _ _ _ zP5.out));
        (have zS6 := mkHid (show w6.heap[w.heap.size + 1]? = some (.cells #[.string ⟨#[97]⟩, .string ⟨#[49]⟩, .string ⟨#[102, 108, 105, 112]⟩] 9 (0, 0)) by rw [hw6, setRow_other _ _ _ _ (by omega), hw5, setRow_other _ _ _ _ (by omega)]; exact zS4));
        (have hE6 := mkHid (show Ext w w6 by rw [hw6, hw5]; exact (((hE1.out.trans hx3.out).trans hx4).row (Nat.le_refl _) _).row (Nat.le_refl _) _));
        (have hp6 := mkHid (show FracR w6 (.agg #[.bool p.b1, .slice p.a1 p.n1 p.c1, .bool p.b2, .slice p.a2 p.n2 p.c2]) 0 by rw [hw6, hw5]; exact (((hp3.out.ext hx4).row (by rw [hsz2.out]; omega) _).row (by rw [hsz2.out]; omega) _).r));
        (have hq6 := mkHid (show FracR w6 (.agg #[.bool q.b1, .slice q.a1 q.n1 q.c1, .bool q.b2, .slice q.a2 q.n2 q.c2]) 0 by rw [hw6, hw5]; exact ((hq4.row (by have := hx3.out.size; rw [hsz2.out] at this; omega) _).row (by have := hx3.out.size; rw [hsz2.out] at this; omega) _).r));
        (have hqs := mkHid (fun k (h : k ∈ Aloof.blks (.agg #[.bool q.b1, .slice q.a1 q.n1 q.c1, .bool q.b2, .slice q.a2 q.n2 q.c2])) => show w.heap.size + 2 ≤ k by have := (hq4.span k h).1; have h2 := hx3.out.size; rw [hsz2.out] at h2; omega)); replace zP4 := mkHid zP4; replace hw5 := mkHid hw5; replace hw6 := mkHid hw6; clear hx4 hq4 zS4)
    | ((have _t : Tok 3 := tok); clear _t; clear tok; (have tok : Tok 4 := .mk _); refine wpList_store_sub rfl 34 (.tmp 17) (.tmp 14) rfl w.heap.size 2 rfl 38 #[.string ⟨#[]⟩, .int .u8 0, .bool false, .slice none 0 0, .bool false, .slice none 0 0, .bool false, .slice none 0 0, .bool false, .slice none 0 0, .int .i64 0] #[.string ⟨#[]⟩, .int .u8 0, .bool p.b1, .slice p.a1 p.n1 p.c1, .bool p.b2, .slice p.a2 p.n2 p.c2, .bool false, .slice none 0 0, .bool false, .slice none 0 0, .int .i64 0] #[.bool p.b1, .slice p.a1 p.n1 p.c1, .bool p.b2, .slice p.a2 p.n2 p.c2] rfl zP4.out (by kernel_rfl) (by simp) (by kernel_rfl) (by kernel_rfl) ?_; rw [← hw5.out])
    | ((have _t : Tok 4 := tok); clear _t; clear tok; (have tok : Tok 5 := .mk _); refine wpList_store_sub rfl 34 (.tmp 19) (.tmp 15) rfl w.heap.size 6 rfl 38 #[.string ⟨#[]⟩, .int .u8 0, .bool p.b1, .slice p.a1 p.n1 p.c1, .bool p.b2, .slice p.a2 p.n2 p.c2, .bool false, .slice none 0 0, .bool false, .slice none 0 0, .int .i64 0] #[.string ⟨#[]⟩, .int .u8 0, .bool p.b1, .slice p.a1 p.n1 p.c1, .bool p.b2, .slice p.a2 p.n2 p.c2, .bool q.b1, .slice q.a1 q.n1 q.c1, .bool q.b2, .slice q.a2 q.n2 q.c2, .int .i64 0] #[.bool q.b1, .slice q.a1 q.n1 q.c1, .bool q.b2, .slice q.a2 q.n2 q.c2] rfl zP5.out (by kernel_rfl) (by simp) (by kernel_rfl) (by kernel_rfl) ?_; rw [← hw6.out]))
  have hap := mkHid (show w.heap.size ∉ Aloof.blks (.agg #[.bool p.b1, .slice p.a1 p.n1 p.c1, .bool p.b2, .slice p.a2 p.n2 p.c2]) ∧ w.heap.size ∉ Aloof.blks (.agg #[.bool q.b1, .slice q.a1 q.n1 q.c1, .bool q.b2, .slice q.a2 q.n2 q.c2]) from ⟨fun h => by have := (hp3.out.span _ h).1; rw [hsz2.out] at this; omega, fun h => by have := (hqs.out _ h); omega⟩)
  clear tok KS KN hw1 hw2 hw5 hw6 zP2 zP4 zP5 zS2 zS3 zP3 hp3 hx3 hE1
  have c0 : w6.cell? ⟨w.heap.size + 1, 0, none⟩ = some (.string ⟨#[97]⟩) := row16_cells zS6.out 0
  have c1 : w6.cell? ⟨w.heap.size + 1, 1, none⟩ = some (.string ⟨#[49]⟩) := row16_cells zS6.out 1
  have c2 : w6.cell? ⟨w.heap.size + 1, 2, none⟩ = some (.string ⟨#[102, 108, 105, 112]⟩) := row16_cells zS6.out 2
  have d1 : w6.cell? ⟨w.heap.size, 1, none⟩ = some (.int .u8 0) := row16_cells zP6.out 1
  have f1 : w6.frozen? ⟨w.heap.size, 1, none⟩ = false := frozen_of_row _ _ _ _ _ zP6.out
  refine wp_loop_rounds 6 ?_
  rw [rounds_succ]
  go_wp2_with (go_at_call 52; refine (K1.out _).mono ?_; rintro e w' ⟨rfl, rfl⟩)
  rw [rounds_succ]
  go_wp2_with (go_at_call 52; refine (K2.out _).mono ?_; rintro e w' ⟨rfl, rfl⟩)
  rw [rounds_succ]
  go_wp2_with (go_at_call 52; refine (K3.out _).mono ?_; rintro e w' ⟨rfl, rfl⟩)
  rw [rounds_succ]
  go_wp2_with (go_at_call 52; refine (K4.out _).mono ?_; rintro e w' ⟨rfl, rfl⟩)
  rw [rounds_succ]
  go_wp2_with (go_at_call 52; refine (K5.out _).mono ?_; rintro e w' ⟨rfl, rfl⟩)
  obtain ⟨w7, hw7⟩ : ∃ w7, w7 = w6.setCell ⟨w.heap.size, 1, none⟩ (.int .u8 5) := ⟨_, rfl⟩
  rw [← hw7]
  have zP7 := mkHid (show w7.heap[w.heap.size]? = some (.cells #[.string ⟨#[]⟩, .int .u8 5, .bool p.b1, .slice p.a1 p.n1 p.c1, .bool p.b2, .slice p.a2 p.n2 p.c2, .bool q.b1, .slice q.a1 q.n1 q.c1, .bool q.b2, .slice q.a2 q.n2 q.c2, .int .i64 0] 38 (0, 0)) by rw [hw7]; exact heap_setCell_same _ _ _ _ _ _ zP6.out)
  have zS7 := mkHid (show w7.heap[w.heap.size + 1]? = some (.cells #[.string ⟨#[97]⟩, .string ⟨#[49]⟩, .string ⟨#[102, 108, 105, 112]⟩] 9 (0, 0)) by rw [hw7, heap_setCell_other _ _ _ _ (by simp)]; exact zS6.out)
  have hp7 := mkHid (show FracR w7 (.agg #[.bool p.b1, .slice p.a1 p.n1 p.c1, .bool p.b2, .slice p.a2 p.n2 p.c2]) 0 by rw [hw7]; exact hp6.out.near fun k hk => heap_setCell_other _ _ _ _ (fun e => by have e' : k = w.heap.size := e; rw [e'] at hk; exact hap.out.1 hk))
  have hq7 := mkHid (show FracR w7 (.agg #[.bool q.b1, .slice q.a1 q.n1 q.c1, .bool q.b2, .slice q.a2 q.n2 q.c2]) 0 by rw [hw7]; exact hq6.out.near fun k hk => heap_setCell_other _ _ _ _ (fun e => by have e' : k = w.heap.size := e; rw [e'] at hk; exact hap.out.2 hk))
  have hE7 := mkHid (show Ext w w7 by rw [hw7]; exact hE6.out.st (Nat.le_refl _) _)
  clear c0 c1 c2 d1 f1 hw7 zP6 zS6 hp6 hq6 hE6
  have c1 : w7.cell? ⟨w.heap.size + 1, 1, none⟩ = some (.string ⟨#[49]⟩) := row16_cells zS7.out 1
  rw [rounds_succ]
  have tok : Tok 20 := .mk _
  go_wp2_with (first
    | ((have _t : Tok 20 := tok); clear _t; clear tok; (have tok : Tok 21 := .mk _); go_at_call 89; refine (KU.out _).mono ?_; rintro e w8 ⟨rfl, hx8⟩; clear c1; (have zP8 := mkHid (hx8.blk zP7.out)); (have zS8 := mkHid (hx8.blk zS7.out)); (have hp8 := mkHid (hp7.out.ext hx8)); (have hq8 := mkHid (hq7.out.ext hx8)); (have hE8 := mkHid (hE7.out.trans hx8)); (have d10 : w8.cell? ⟨w.heap.size, 10, none⟩ = some (.int .i64 0) := row16_cells zP8.out 10); (have f10 : w8.frozen? ⟨w.heap.size, 10, none⟩ = false := frozen_of_row _ _ _ _ _ zP8.out); (have c0 : w8.cell? ⟨w.heap.size + 1, 0, none⟩ = some (.string ⟨#[97]⟩) := row16_cells zS8.out 0); (have d0 : w8.cell? ⟨w.heap.size, 0, none⟩ = some (.string ⟨#[]⟩) := row16_cells zP8.out 0); (have f0 : w8.frozen? ⟨w.heap.size, 0, none⟩ = false := frozen_of_row _ _ _ _ _ zP8.out); clear hx8)
    | ((have _t : Tok 21 := tok); clear _t; clear tok; (have tok : Tok 22 := .mk _); go_at_call 33;
        (obtain ⟨w9, hw9⟩ : ∃ w9, w9 = (w8.setCell ⟨w.heap.size, 10, none⟩ (.int .i64 1)).setCell ⟨w.heap.size, 0, none⟩ (.string ⟨#[97]⟩) := ⟨_, rfl⟩); rw [← hw9];
        (have zP9 : w9.heap[w.heap.size]? = some (.cells #[.string ⟨#[97]⟩, .int .u8 5, .bool p.b1, .slice p.a1 p.n1 p.c1, .bool p.b2, .slice p.a2 p.n2 p.c2, .bool q.b1, .slice q.a1 q.n1 q.c1, .bool q.b2, .slice q.a2 q.n2 q.c2, .int .i64 1] 38 (0, 0)) := by rw [hw9]; exact heap_setCell_same _ _ _ _ _ _ (heap_setCell_same _ _ _ _ _ _ zP8.out));
        (have hnear : ∀ k, k ≠ w.heap.size → w9.heap[k]? = w8.heap[k]? := fun k hk => by rw [hw9]; exact (heap_setCell_other _ _ _ _ hk).trans (heap_setCell_other _ _ _ _ hk));
        (have hp9 : FracR w9 (.agg #[.bool p.b1, .slice p.a1 p.n1 p.c1, .bool p.b2, .slice p.a2 p.n2 p.c2]) 0 := hp8.out.near fun k hk => hnear k (fun e => by rw [e] at hk; exact hap.out.1 hk));
        (have hq9 : FracR w9 (.agg #[.bool q.b1, .slice q.a1 q.n1 q.c1, .bool q.b2, .slice q.a2 q.n2 q.c2]) 0 := hq8.out.near fun k hk => hnear k (fun e => by rw [e] at hk; exact hap.out.2 hk));
        (have hE9 : Ext w w9 := by rw [hw9]; exact (hE8.out.st (Nat.le_refl _) _).st (Nat.le_refl _) _);
        refine (KD.out _).mono ?_; rintro e w10 ⟨rfl, hx⟩; (have zP10 := mkHid (hx.blk zP9)); (have hp10 := mkHid (hp9.ext hx)); (have hq10 := mkHid (hq9.ext hx)); (have hE10 := mkHid (hE9.trans hx)); clear hx zP9 hp9 hq9 hE9 hnear hw9 d10 f10 c0 d0 f0 zP8 zS8 hp8 hq8 hE8))
  clear tok
  obtain ⟨w11, hw11⟩ : ∃ w11, w11 = w10.alloc (.cells #[.pointer (some ⟨w.heap.size, 2, none⟩), .pointer (some ⟨w.heap.size, 6, none⟩)] 132) := ⟨_, rfl⟩
  rw [← hw11]
  have hx11 : Ext w10 w11 := by rw [hw11]; exact (Ext.refl _).al _
  have zP11 := mkHid (hx11.blk zP10.out)
  have hp11 := mkHid (hp10.out.ext hx11)
  have hq11 := mkHid (hq10.out.ext hx11)
  have hE11 := mkHid (hE10.out.trans hx11)
  clear hx11 hw11 zP10 hp10 hq10 hE10
  refine wp_loop_rounds 1 ?_
  rw [rounds_succ]
  have tok : Tok 30 := .mk _
  go_wp2_with (first
    | ((have _t : Tok 30 := tok); clear _t; clear tok; (have tok : Tok 31 := .mk _); refine wpList_load_row (by rfl) 38 (.tmp 2) rfl w.heap.size rfl 38 #[.string ⟨#[97]⟩, .int .u8 5, .bool p.b1, .slice p.a1 p.n1 p.c1, .bool p.b2, .slice p.a2 p.n2 p.c2, .bool q.b1, .slice q.a1 q.n1 q.c1, .bool q.b2, .slice q.a2 q.n2 q.c2, .int .i64 1] (0, 0) _ zP11.out Tryz.underlying38 rfl (by kernel_rfl) ?_)
    | ((have _t : Tok 31 := tok); clear _t; clear tok; (have tok : Tok 32 := .mk _); go_at_call 34; refine (KM.out _ p q hp11.out hq11.out).mono ?_; rintro e w12 ⟨rfl, hx⟩; (have zP12 := mkHid (hx.blk zP11.out)); (have hp12 := mkHid (hp11.out.ext hx)); (have hq12 := mkHid (hq11.out.ext hx)); (have hE12 := mkHid (hE11.out.trans hx)); clear hx zP11 hp11 hq11 hE11)
    | ((have _t : Tok 32 := tok); clear _t; clear tok; (have tok : Tok 33 := .mk _); refine wpList_load_row (by rfl) 38 (.tmp 2) rfl w.heap.size rfl 38 #[.string ⟨#[97]⟩, .int .u8 5, .bool p.b1, .slice p.a1 p.n1 p.c1, .bool p.b2, .slice p.a2 p.n2 p.c2, .bool q.b1, .slice q.a1 q.n1 q.c1, .bool q.b2, .slice q.a2 q.n2 q.c2, .int .i64 1] (0, 0) _ zP12.out Tryz.underlying38 rfl (by kernel_rfl) ?_)
    | ((have _t : Tok 33 := tok); clear _t; clear tok; (have tok : Tok 34 := .mk _); refine wpList_store_row rfl 38 (.tmp 2) (.tmp 106) rfl w.heap.size #[.string ⟨#[97]⟩, .int .u8 5, .bool p.b1, .slice p.a1 p.n1 p.c1, .bool p.b2, .slice p.a2 p.n2 p.c2, .bool q.b1, .slice q.a1 q.n1 q.c1, .bool q.b2, .slice q.a2 q.n2 q.c2, .int .i64 1] rfl rfl 38 _ zP12.out (by kernel_rfl) rfl (by kernel_rfl) ?_))
  refine bodyPost_ret (results_row_tmp rfl _ _ w.heap.size 38 #[.string ⟨#[97]⟩, .int .u8 5, .bool p.b1, .slice p.a1 p.n1 p.c1, .bool p.b2, .slice p.a2 p.n2 p.c2, .bool q.b1, .slice q.a1 q.n1 q.c1, .bool q.b2, .slice q.a2 q.n2 q.c2, .int .i64 1] _ _ rfl rfl (setRow_heap _ _ _ _ _ _ zP12.out) Tryz.underlying38 rfl (by kernel_rfl)) rfl ?_
  exact ⟨_, rfl, ⟨p, q, rfl, hp12.out.near fun k hk => setRow_other _ _ _ _ (fun e => by have e' : k = w.heap.size := (by omega); rw [e'] at hk; exact hap.out.1 hk), hq12.out.near fun k hk => setRow_other _ _ _ _ (fun e => by have e' : k = w.heap.size := (by omega); rw [e'] at hk; exact hap.out.2 hk)⟩, hE12.out.row (Nat.le_refl _) _⟩
end Go.Proofs.YtkkfgphcmnhabaaGreatDoor
namespace Go.Proofs.YtkkfgphcmnhabaaGreatDoor
set_option maxRecDepth 100000
open Go Go.RowKit Go.Proofs Go.WideElems Go.ChangeMaps Go.MapKept
def newM (s : ByteArray) (v : Value) (clock : Nat) : Obj := .map #[⟨.string s, v, clock⟩] (clock + 1)
theorem entry_new (W : World) (M clock : Nat) (s : ByteArray) (hs : s.size ≤ maxLen) (hb : W.heap[M]? = some (.map #[] clock)) :
    (Instr.mapEntry 70 (.map (some M)) (.string s)).run Tryz.prog W = .ok (.tuple #[zeroPart, .int .i64 clock]) (setBlock W M (newM s zeroPart clock)) := by
  have K := WideMaps.string_law (P := Tryz.prog) (k := 9) Tryz.underlying9
  have hkey := key_str hs
  rcases K.find W hkey [] (by simp) with ⟨h1, h2⟩ | ⟨j, e0, h1, h2, h3⟩
  · simp [Instr.mapEntry, run_underlying Tryz.underlying70, MapKept.run_getObj_map hb, K.check W false hkey, h1, zero_part W, MapKept.run_setObj_map _ hb, Result.andThen, setBlock, newM, goInt]
  · simp at h2
theorem entry_old (W : World) (M clock : Nat) (s : ByteArray) (x : Value) (hs : s.size ≤ maxLen) (hb : W.heap[M]? = some (newM s x clock)) :
    (Instr.mapEntry 70 (.map (some M)) (.string s)).run Tryz.prog W = .ok (.tuple #[x, .int .i64 clock]) (setBlock W M (newM s x clock)) := by
  have K := WideMaps.string_law (P := Tryz.prog) (k := 9) Tryz.underlying9
  have hkey := key_str hs
  unfold newM at hb
  rcases K.find W hkey [⟨.string s, x, clock⟩] (by intro e he; rw [List.mem_singleton] at he; subst he; exact ⟨_, hkey⟩) with ⟨h1, h2⟩ | ⟨j, e0, h1, h2, h3⟩
  · exact absurd rfl (h2 _ (List.mem_singleton.2 rfl))
  · have hj : j = 0 := by
      have := (List.getElem?_eq_some_iff.1 h2).1
      simpa using this
    subst hj
    simp only [List.getElem?_cons_zero, Option.some.injEq] at h2
    subst h2
    simp [Instr.mapEntry, run_underlying Tryz.underlying70, MapKept.run_getObj_map hb, K.check W false hkey, h1, K.stays W hkey, MapKept.run_setObj_map _ hb, Result.andThen, setBlock, newM, goInt]
theorem entry_store (W : World) (M clock : Nat) (s : ByteArray) (x val : Value) (hb : W.heap[M]? = some (newM s x clock)) :
    (Instr.entryStore 70 (.map (some M)) (.int .i64 clock) val).run Tryz.prog W = .ok () (setBlock W M (newM s val clock)) := by
  unfold newM at hb
  simp [Instr.entryStore, MapKept.run_getObj_map hb, asInt, asIntOf, MapKept.run_setObj_map _ hb, Result.andThen, setBlock, newM]
/-- All blocks are as they were but one; that is as it was, or has the new entry. -/
structure EnR (M : Nat) (s : ByteArray) (clock : Nat) (w w' : World) : Prop where
  os : w'.os = w.os
  tape : w'.tape = w.tape
  output : w'.output = w.output
  size : w.heap.size ≤ w'.heap.size
  block : ∀ k, k < w.heap.size → k ≠ M → w'.heap[k]? = w.heap[k]?
  map : w'.heap[M]? = w.heap[M]? ∨ (∃ x, w'.heap[M]? = some (newM s x clock)) ∨ w.heap.size ≤ M
theorem EnR.of_ext {M clock : Nat} {s : ByteArray} {w w' : World} (e : Ext w w') : EnR M s clock w w' :=
  ⟨e.os, e.tape, e.output, e.size, fun k h _ => e.block k h, by
    rcases Nat.lt_or_ge M w.heap.size with h | h
    · exact .inl (e.block M h)
    · exact .inr (.inr h)⟩
theorem EnR.trans {M clock : Nat} {s : ByteArray} {a b c : World} (h : EnR M s clock a b) (k : EnR M s clock b c) : EnR M s clock a c := by
  refine ⟨k.os.trans h.os, k.tape.trans h.tape, k.output.trans h.output, Nat.le_trans h.size k.size, fun i hi hn => (k.block i (Nat.lt_of_lt_of_le hi h.size) hn).trans (h.block i hi hn), ?_⟩
  rcases k.map with e | e | e
  · rcases h.map with f | ⟨x, f⟩ | f
    · exact .inl (e.trans f)
    · exact .inr (.inl ⟨x, e.trans f⟩)
    · exact .inr (.inr f)
  · exact .inr (.inl e)
  · exact .inr (.inr (Nat.le_trans h.size e))
theorem EnR.blk {M k clock : Nat} {s : ByteArray} {w w' : World} {o : Obj} (h : EnR M s clock w w') (hk : w.heap[k]? = some o) (hne : k ≠ M) : w'.heap[k]? = some o :=
  (h.block k (Array.getElem?_eq_some_iff.1 hk).1 hne).trans hk
theorem EnR.set {M clock : Nat} {s : ByteArray} {old : Obj} {w : World} (x : Value) (ho : w.heap[M]? = some old) : EnR M s clock w (setBlock w M (newM s x clock)) := by
  have hlt : M < w.heap.size := (Array.getElem?_eq_some_iff.1 ho).1
  refine ⟨rfl, rfl, rfl, by simp [setBlock], fun k _ hne => ?_, .inr (.inl ⟨x, ?_⟩)⟩
  · simp [setBlock, Array.getElem?_setIfInBounds_ne (Ne.symm hne)]
  · simp [setBlock, hlt]
theorem region_entry {id : Nat} {l : List Oper} {a : Act} {w : World} {Q : Exit → Act → World → Prop} (M : Nat) (s : ByteArray) (clock : Nat) (specs : List FSpec) (hok : okFreeS specs.length a.tmps.size l = true) (hst : StableAll (EnR M s clock) specs) (hvo : VoidAll l specs)
    (h : freeSteps Tryz.prog l (EnR M s clock) w Q 0 specs l a []) : (Code.region id l.toArray true).wp Tryz.prog Q a w :=
  region_freeS (EnR M s clock) specs mixed hok (fun w => .of_ext (Ext.refl w)) (fun _ _ _ => EnR.trans) (fun w => .of_ext ((Ext.refl w).dr)) (stableAll_mem hst) hvo h
theorem fr_entry {P : Program} {S : World → Value → Prop} {o : Oper} {a : Act} {W : World} {X : Prop} {c : Prop} {ic : Decidable c} (hw : c) (ty : TypeId) (m k : Operand) (ho : o.op = .mapEntry ty m k) (vm vk : Value)
    (hm : a.eval m = vm) (hk : a.eval k = vk) (h : ∃ v W', (Instr.mapEntry ty vm vk).run P W = .ok v W' ∧ S W' v) : if c then givesV P S ((execOp a.eval o).run P W) else X := by
  obtain ⟨v, W', hr, h⟩ := h
  rw [if_pos hw]
  unfold execOp
  simp only [ho, hm, hk, Sem.run_bind, hr, Result.andThen_ok, Sem.run_pure]
  exact h
theorem fr_estore {P : Program} {S : World → Value → Prop} {o : Oper} {a : Act} {W : World} {X : Prop} {c : Prop} {ic : Decidable c} (hw : c) (ty : TypeId) (m k x : Operand) (ho : o.op = .entryStore ty m k x) (vm vk vx : Value)
    (hm : a.eval m = vm) (hk : a.eval k = vk) (hx : a.eval x = vx) (h : ∃ W', (Instr.entryStore ty vm vk vx).run P W = .ok () W' ∧ S W' undef) : if c then givesV P S ((execOp a.eval o).run P W) else X := by
  obtain ⟨W', hr, h⟩ := h
  rw [if_pos hw]
  unfold execOp
  simp only [ho, hm, hk, hx, Sem.run_bind, hr, Result.andThen_ok, Sem.run_pure]
  exact h
theorem fr_extract1 {P : Program} {S : World → Value → Prop} {o : Oper} {a : Act} {W : World} {X : Prop} {c : Prop} {ic : Decidable c} (hw : c) (x : Operand) (ho : o.op = .extract x 1) (vx y : Value) (hx : a.eval x = vx) (h : ∃ u, vx = .tuple #[u, y]) (hS : S W y) :
    if c then givesV P S ((execOp a.eval o).run P W) else X := by
  obtain ⟨u, rfl⟩ := h
  rw [if_pos hw]
  unfold execOp
  simp only [ho, hx]
  simp [Instr.extract]
  exact hS
def EntV (M : Nat) (s : ByteArray) (clock : Nat) (W : World) (v : Value) : Prop := (∃ x, v = .tuple #[x, .int .i64 clock]) ∧ ∃ x, W.heap[M]? = some (newM s x clock)
theorem EntV.stable {M clock : Nat} {s : ByteArray} {W W' : World} {v : Value} (e : EnR M s clock W W') (h : EntV M s clock W v) : EntV M s clock W' v := by
  refine ⟨h.1, ?_⟩
  obtain ⟨x, hx⟩ := h.2
  rcases e.map with f | f | f
  · exact ⟨x, f.trans hx⟩
  · exact f
  · have := (Array.getElem?_eq_some_iff.1 hx).1
    omega
def ClkV (M : Nat) (s : ByteArray) (clock : Nat) (W : World) (v : Value) : Prop := v = .int .i64 clock ∧ ∃ x, W.heap[M]? = some (newM s x clock)
theorem stE_clk {M clock : Nat} {s : ByteArray} {ss : List FSpec} (h : StableAll (EnR M s clock) ss) : StableAll (EnR M s clock) (.pred (ClkV M s clock) :: ss) := ⟨fun _ _ _ e k => ⟨k.1, (EntV.stable (v := .tuple #[undef, .int .i64 clock]) e ⟨⟨undef, rfl⟩, k.2⟩).2⟩, h⟩
def AnyV (_ : World) (_ : Value) : Prop := True
theorem stE_val {M clock : Nat} {s : ByteArray} {ss : List FSpec} (c : Value) (h : StableAll (EnR M s clock) ss) : StableAll (EnR M s clock) (.val c :: ss) := stable_vals c h
theorem stE_ent {M clock : Nat} {s : ByteArray} {ss : List FSpec} (h : StableAll (EnR M s clock) ss) : StableAll (EnR M s clock) (.pred (EntV M s clock) :: ss) := ⟨fun _ _ _ e k => k.stable e, h⟩
theorem stE_any {M clock : Nat} {s : ByteArray} {ss : List FSpec} (h : StableAll (EnR M s clock) ss) : StableAll (EnR M s clock) (.pred AnyV :: ss) := ⟨fun _ _ _ _ _ => trivial, h⟩
theorem cat_empty {w : World} {g M : Nat} (h : Cat w g M []) : ∃ clock, w.heap[M]? = some (.map #[] clock) := by
  obtain ⟨es, clock, h1, -, h2, -⟩ := h.map
  have : es = #[] := Array.eq_empty_of_size_eq_zero (by simpa using h2)
  rw [this] at h1
  exact ⟨clock, h1⟩
set_option maxRecDepth 100000 in
set_option maxHeartbeats 800000 in
/-- **Parse of "b 1 flip\na 1 flip\n".** -/
theorem parse_two (w : World) (hm : Max0 w) : Calls Tryz.prog 25 #[.string ⟨#[98, 32, 49, 32, 102, 108, 105, 112, 10, 97, 32, 49, 32, 102, 108, 105, 112, 10]⟩] w fun e w' => e = .returned (.tuple #[.pointer none, .int .i64 1, .int .i64 5]) ∧ Ext w w' := by
  have KN := mkHid (new_c w)
  have KC1 : Hid (∀ (W : World), Max0 W → Calls Tryz.prog 58 #[.string ⟨#[98, 32, 49, 32, 102, 108, 105, 112, 10, 97, 32, 49, 32, 102, 108, 105, 112, 10]⟩, .string ⟨#[10]⟩] W fun e w' => e = .returned (.tuple #[.string ⟨#[98, 32, 49, 32, 102, 108, 105, 112]⟩, .string ⟨#[97, 32, 49, 32, 102, 108, 105, 112, 10]⟩, .bool true]) ∧ Ext W w') := mkHid fun W ⟨m, h⟩ => (Tryz.strings_Cut _ _ m W (by decide) h).mono fun e w' k => ⟨k.1.trans (by kernel_rfl), by obtain ⟨n, e2⟩ := k.2; rw [e2]; exact (Ext.refl W).drN n⟩
  have KC2 : Hid (∀ (W : World), Max0 W → Calls Tryz.prog 58 #[.string ⟨#[97, 32, 49, 32, 102, 108, 105, 112, 10]⟩, .string ⟨#[10]⟩] W fun e w' => e = .returned (.tuple #[.string ⟨#[97, 32, 49, 32, 102, 108, 105, 112]⟩, .string ⟨#[]⟩, .bool true]) ∧ Ext W w') := mkHid fun W ⟨m, h⟩ => (Tryz.strings_Cut _ _ m W (by decide) h).mono fun e w' k => ⟨k.1.trans (by kernel_rfl), by obtain ⟨n, e2⟩ := k.2; rw [e2]; exact (Ext.refl W).drN n⟩
  have KB := mkHid (fun W h => read_b W h)
  have KA := mkHid (fun W h => read_a W h)
  have l1 : Op.bytesLess [97] [98] = true := rfl
  have l2 : Op.bytesLess [98] [] = false := rfl
  have hM := mkHid (fun W (e : Ext w W) => hm.ext e)
  clear hm
  go_enter Tryz.func25, Tryz.ntmps25
  have tok : Tok 0 := .mk _
  go_wp2_with ((have _t : Tok 0 := tok); clear _t; clear tok; (have tok : Tok 1 := .mk _); go_at_call 21; refine KN.out.mono ?_; rintro e w1 ⟨g, M, rfl, hcat, hE1, hg, hMl⟩; replace hcat := mkHid hcat; replace hE1 := mkHid hE1)
  clear KN tok
  refine wp_loop_rounds 2 ?_
  rw [rounds_succ]
  have tok : Tok 2 := .mk _
  go_wp2_with (first
    | ((have _t : Tok 2 := tok); clear _t; clear tok; (have tok : Tok 3 := .mk _); go_at_call 58; refine (KC1.out _ (hM.out _ hE1.out)).mono ?_; rintro e w2 ⟨rfl, hx⟩; (have hE2 := mkHid (hE1.out.trans hx)); (have hc2 := mkHid (hcat.out.ext hx)); clear hx)
    | ((have _t : Tok 3 := tok); clear _t; clear tok; (have tok : Tok 4 := .mk _); go_at_call 59; refine (KB.out _ (hM.out _ hE2.out)).mono ?_; rintro e w3 ⟨v3, rfl, hf3, hx⟩; (have hE3 := mkHid (hE2.out.trans hx)); (have hc3 := hc2.out.ext hx); (obtain ⟨p, q, rfl, -, -⟩ := hf3); clear hx;
        (obtain ⟨w4, hw4⟩ : ∃ w4, w4 = (w3.alloc (.cells #[.string ⟨#[]⟩, .int .u8 0, .bool false, .slice none 0 0, .bool false, .slice none 0 0, .bool false, .slice none 0 0, .bool false, .slice none 0 0, .int .i64 0] 38)).setRow w3.heap.size #[.string ⟨#[98]⟩, .int .u8 5, .bool p.b1, .slice p.a1 p.n1 p.c1, .bool p.b2, .slice p.a2 p.n2 p.c2, .bool q.b1, .slice q.a1 q.n1 q.c1, .bool q.b2, .slice q.a2 q.n2 q.c2, .int .i64 1] := ⟨_, rfl⟩);
        (have zn := heap_alloc_new w3 (.cells #[.string ⟨#[]⟩, .int .u8 0, .bool false, .slice none 0 0, .bool false, .slice none 0 0, .bool false, .slice none 0 0, .bool false, .slice none 0 0, .int .i64 0] 38));
        (have z4 := mkHid (show w4.heap[w3.heap.size]? = some (.cells #[.string ⟨#[98]⟩, .int .u8 5, .bool p.b1, .slice p.a1 p.n1 p.c1, .bool p.b2, .slice p.a2 p.n2 p.c2, .bool q.b1, .slice q.a1 q.n1 q.c1, .bool q.b2, .slice q.a2 q.n2 q.c2, .int .i64 1] 38 (0, 0)) by rw [hw4]; exact setRow_heap _ _ _ _ _ _ zn));
        (have hx4 : Ext w3 w4 := by rw [hw4]; exact ((Ext.refl w3).al _).row (Nat.le_refl _) _);
        (have hc4 := mkHid (hc3.ext hx4)); (have hE4 := mkHid (hE3.out.trans hx4)); (have hgM : w3.heap.size ≠ M := by have := hc3.map.lt; omega); replace hw4 := mkHid hw4; replace zn := mkHid zn; clear hx4 hc3)
    | ((have _t : Tok 4 := tok); clear _t; clear tok; (have tok : Tok 5 := .mk _); refine wpList_store_row rfl 38 (.tmp 9) (.tmp 31) rfl w3.heap.size #[.string ⟨#[98]⟩, .int .u8 5, .bool p.b1, .slice p.a1 p.n1 p.c1, .bool p.b2, .slice p.a2 p.n2 p.c2, .bool q.b1, .slice q.a1 q.n1 q.c1, .bool q.b2, .slice q.a2 q.n2 q.c2, .int .i64 1] rfl rfl 38 _ zn.out (by kernel_rfl) rfl (by kernel_rfl) ?_; rw [← hw4.out]; (have c0 : w4.cell? ⟨w3.heap.size, 0, none⟩ = some (.string ⟨#[98]⟩) := row16_cells z4.out 0)))
  clear tok c0
  obtain ⟨clock, hck⟩ := cat_empty hc4.out
  have hgs := hc4.out.str
  have hgne : g ≠ M := hc4.out.ne
  have hMlt := (Array.getElem?_eq_some_iff.1 hck).1
  have HL : ∀ W, EnR M ⟨#[98]⟩ clock w4 W → W.cell? ⟨g, 0, none⟩ = some (.map (some M)) := fun W e => cell0 (e.blk hgs hgne)
  have HS : ∀ W, EnR M ⟨#[98]⟩ clock w4 W → W.cell? ⟨w3.heap.size, 0, none⟩ = some (.string ⟨#[98]⟩) := fun W e => row16_cells (e.blk z4.out hgM) 0
  have HP := mkHid (fun W (e : EnR M ⟨#[98]⟩ clock w4 W) => e.blk z4.out hgM)
  have hset : Hid (∀ (W : World) (x : Value) {o : Obj}, W.heap[M]? = some o → (setBlock W M (newM ⟨#[98]⟩ x clock)).heap[M]? = some (newM ⟨#[98]⟩ x clock)) := mkHid fun W x o h => by
    have := (Array.getElem?_eq_some_iff.1 h).1
    simp [setBlock, this]
  have HE : Hid (∀ W, EnR M ⟨#[98]⟩ clock w4 W → ∃ v W', (Instr.mapEntry 70 (.map (some M)) (.string ⟨#[98]⟩)).run Tryz.prog W = .ok v W' ∧ (EnR M ⟨#[98]⟩ clock W W' ∧ EntV M ⟨#[98]⟩ clock W' v)) := mkHid fun W e => by
    rcases e.map with f | ⟨x, f⟩ | f
    · exact ⟨_, _, entry_new W M clock _ (by decide) (f.trans hck), EnR.set _ (f.trans hck), ⟨_, rfl⟩, _, hset.out _ _ (f.trans hck)⟩
    · exact ⟨_, _, entry_old W M clock _ x (by decide) f, EnR.set _ f, ⟨_, rfl⟩, _, hset.out _ _ f⟩
    · omega
  have HX : Hid (∀ W, (∃ x, W.heap[M]? = some (newM ⟨#[98]⟩ x clock)) → ∃ W', (Instr.entryStore 70 (.map (some M)) (.int .i64 clock) (.agg #[.string ⟨#[98]⟩, .int .u8 5, .bool p.b1, .slice p.a1 p.n1 p.c1, .bool p.b2, .slice p.a2 p.n2 p.c2, .bool q.b1, .slice q.a1 q.n1 q.c1, .bool q.b2, .slice q.a2 q.n2 q.c2, .int .i64 1])).run Tryz.prog W = .ok () W' ∧ (EnR M ⟨#[98]⟩ clock W W' ∧ AnyV W' undef)) := mkHid fun W ⟨x, h⟩ => ⟨_, entry_store W M clock _ x _ h, EnR.set _ h, trivial⟩
  replace hck := mkHid hck
  clear hgs hMlt
  apply region_entry M ⟨#[98]⟩ clock [.val (.pointer (some ⟨g, 0, none⟩)), .val (.pointer (some ⟨g, 0, none⟩)), .val (.pointer (some ⟨g, 0, none⟩)), .val (.map (some M)), .val (.pointer (some ⟨w3.heap.size, 0, none⟩)), .val (.string ⟨#[98]⟩), .val (.agg #[.string ⟨#[98]⟩, .int .u8 5, .bool p.b1, .slice p.a1 p.n1 p.c1, .bool p.b2, .slice p.a2 p.n2 p.c2, .bool q.b1, .slice q.a1 q.n1 q.c1, .bool q.b2, .slice q.a2 q.n2 q.c2, .int .i64 1]), .val (.pointer (some ⟨w3.heap.size, 0, none⟩)), .val (.string ⟨#[98]⟩), .val (.string ⟨#[97, 32, 49, 32, 102, 108, 105, 112, 10]⟩), .pred (EntV M ⟨#[98]⟩ clock), .pred (ClkV M ⟨#[98]⟩ clock), .pred AnyV, .val (.string ⟨#[98]⟩)]
  case hok => kernel_rfl
  case hst => exact (stE_val _ (stE_val _ (stE_val _ (stE_val _ (stE_val _ (stE_val _ (stE_val _ (stE_val _ (stE_val _ (stE_val _ (stE_ent (stE_clk (stE_any (stE_val _ trivial))))))))))))))
  case hvo =>
    iterate 12 (refine ⟨(by intro h; cases h), ?_⟩)
    exact ⟨fun _ _ _ _ => trivial, (by intro h; cases h), trivial⟩
  iterate 3 (refine ⟨fun W hW _ => by go_simp; first | exact ⟨.of_ext (Ext.refl _), rfl⟩ | exact .of_ext (Ext.refl _), ?_⟩)
  refine ⟨fun W hW _ => by have := HL W hW; go_simp; first | exact ⟨.of_ext (Ext.refl _), rfl⟩ | exact .of_ext (Ext.refl _), ?_⟩
  refine ⟨fun W hW _ => by go_simp; first | exact ⟨.of_ext (Ext.refl _), rfl⟩ | exact .of_ext (Ext.refl _), ?_⟩
  refine ⟨fun W hW _ => by have := HS W hW; go_simp; first | exact ⟨.of_ext (Ext.refl _), rfl⟩ | exact .of_ext (Ext.refl _), ?_⟩
  refine ⟨?ld, ?_⟩
  case ld =>
    intro W hW hF
    have hr := HP.out W hW
    with_reducible refine fr_load ?zhw 38 (.tmp 9) ?zho w3.heap.size ?zhx 38 #[.string ⟨#[98]⟩, .int .u8 5, .bool p.b1, .slice p.a1 p.n1 p.c1, .bool p.b2, .slice p.a2 p.n2 p.c2, .bool q.b1, .slice q.a1 q.n1 q.c1, .bool q.b2, .slice q.a2 q.n2 q.c2, .int .i64 1] (0, 0) _ hr Tryz.underlying38 ?zhd ?zhi ?zh
    case zhw => kernel_rfl
    case zho => rfl
    case zhx => kernel_rfl
    case zhd => rfl
    case zhi => kernel_rfl
    case zh => exact ⟨.of_ext (Ext.refl _), rfl⟩
  refine ⟨fun W hW _ => by go_simp; first | exact ⟨.of_ext (Ext.refl _), rfl⟩ | exact .of_ext (Ext.refl _), ?_⟩
  refine ⟨fun W hW _ => by have := HS W hW; go_simp; first | exact ⟨.of_ext (Ext.refl _), rfl⟩ | exact .of_ext (Ext.refl _), ?_⟩
  refine ⟨fun W hW _ => by go_simp; first | exact ⟨.of_ext (Ext.refl _), rfl⟩ | exact .of_ext (Ext.refl _), ?_⟩
  refine ⟨?en, fun v10 => ?_⟩
  case en =>
    intro W hW hF
    have y1 := HE.out W hW
    with_reducible refine fr_entry ?zhw 70 (.tmp 51) (.tmp 53) ?zho (.map (some M)) (.string ⟨#[98]⟩) ?zhm ?zhk y1
    case zhw => kernel_rfl
    case zho => rfl
    case zhm => kernel_rfl
    case zhk => kernel_rfl
  refine ⟨?ex, fun v11 => ?_⟩
  case ex =>
    intro W hW hF
    have hv : (∃ x, v10 = .tuple #[x, .int .i64 clock]) ∧ ∃ x, W.heap[M]? = some (newM ⟨#[98]⟩ x clock) := hF.1 (by kernel_rfl)
    with_reducible refine fr_extract1 ?zhw (.tmp 58) ?zho v10 (.int .i64 clock) ?zhx hv.1 ?zh
    case zhw => kernel_rfl
    case zho => rfl
    case zhx => kernel_rfl
    case zh => exact ⟨.of_ext (Ext.refl _), rfl, hv.2⟩
  refine ⟨?es, fun v12 => ?_⟩
  case es =>
    intro W hW hF
    have hv : v11 = .int .i64 clock ∧ ∃ x, W.heap[M]? = some (newM ⟨#[98]⟩ x clock) := hF.1 (by kernel_rfl)
    have y1 := HX.out W hv.2
    rw [← hv.1] at y1
    with_reducible refine fr_estore ?zhw 70 (.tmp 51) (.tmp 59) (.tmp 54) ?zho (.map (some M)) v11 (.agg #[.string ⟨#[98]⟩, .int .u8 5, .bool p.b1, .slice p.a1 p.n1 p.c1, .bool p.b2, .slice p.a2 p.n2 p.c2, .bool q.b1, .slice q.a1 q.n1 q.c1, .bool q.b2, .slice q.a2 q.n2 q.c2, .int .i64 1]) ?zhm ?zhk ?zhx y1
    case zhw => kernel_rfl
    case zho => rfl
    case zhm => kernel_rfl
    case zhk => kernel_rfl
    case zhx => kernel_rfl
  refine ⟨fun W hW _ => by go_simp; first | exact ⟨.of_ext (Ext.refl _), rfl⟩ | exact .of_ext (Ext.refl _), ?_⟩
  case _ =>
    intro w5 hW hF
    have hE5 : Ext w w5 := by
      have h1 := hE4.out
      refine ⟨hW.os.trans h1.os, hW.tape.trans h1.tape, hW.output.trans h1.output, Nat.le_trans h1.size hW.size, fun k hk => ?_⟩
      rw [hW.block k (Nat.lt_of_lt_of_le hk h1.size) (by omega)]
      exact h1.block k hk
    replace hE5 := mkHid hE5
    clear HL HS hF hW
    go_simp
    go_wp2_with fail
    rw [rounds_succ]
    have tok : Tok 12 := .mk _
    go_wp2_with (first
      | ((have _t : Tok 12 := tok); clear _t; clear tok; (have tok : Tok 13 := .mk _); go_at_call 58; refine (KC2.out _ (hM.out _ hE5.out)).mono ?_; rintro e w6 ⟨rfl, hx⟩; (have hE6 := mkHid (hE5.out.trans hx)); clear hx)
      | ((have _t : Tok 13 := tok); clear _t; clear tok; (have tok : Tok 14 := .mk _); go_at_call 59; refine (KA.out _ (hM.out _ hE6.out)).mono ?_; rintro e w7 ⟨v7, rfl, hf7, hx⟩; (have hE7 := mkHid (hE6.out.trans hx)); (obtain ⟨p2, q2, rfl, -, -⟩ := hf7); clear hx;
          (obtain ⟨w8, hw8⟩ : ∃ w8, w8 = (w7.alloc (.cells #[.string ⟨#[]⟩, .int .u8 0, .bool false, .slice none 0 0, .bool false, .slice none 0 0, .bool false, .slice none 0 0, .bool false, .slice none 0 0, .int .i64 0] 38)).setRow w7.heap.size #[.string ⟨#[97]⟩, .int .u8 5, .bool p2.b1, .slice p2.a1 p2.n1 p2.c1, .bool p2.b2, .slice p2.a2 p2.n2 p2.c2, .bool q2.b1, .slice q2.a1 q2.n1 q2.c1, .bool q2.b2, .slice q2.a2 q2.n2 q2.c2, .int .i64 1] := ⟨_, rfl⟩);
          (have zn8 := heap_alloc_new w7 (.cells #[.string ⟨#[]⟩, .int .u8 0, .bool false, .slice none 0 0, .bool false, .slice none 0 0, .bool false, .slice none 0 0, .bool false, .slice none 0 0, .int .i64 0] 38));
          (have z8 := mkHid (show w8.heap[w7.heap.size]? = some (.cells #[.string ⟨#[97]⟩, .int .u8 5, .bool p2.b1, .slice p2.a1 p2.n1 p2.c1, .bool p2.b2, .slice p2.a2 p2.n2 p2.c2, .bool q2.b1, .slice q2.a1 q2.n1 q2.c1, .bool q2.b2, .slice q2.a2 q2.n2 q2.c2, .int .i64 1] 38 (0, 0)) by rw [hw8]; exact setRow_heap _ _ _ _ _ _ zn8));
          (have hx8 : Ext w7 w8 := by rw [hw8]; exact ((Ext.refl w7).al _).row (Nat.le_refl _) _);
          (have hE8 := mkHid (hE7.out.trans hx8)); replace hw8 := mkHid hw8; replace zn8 := mkHid zn8; clear hx8)
      | ((have _t : Tok 14 := tok); clear _t; clear tok; (have tok : Tok 15 := .mk _); refine wpList_store_row rfl 38 (.tmp 9) (.tmp 31) rfl w7.heap.size #[.string ⟨#[97]⟩, .int .u8 5, .bool p2.b1, .slice p2.a1 p2.n1 p2.c1, .bool p2.b2, .slice p2.a2 p2.n2 p2.c2, .bool q2.b1, .slice q2.a1 q2.n1 q2.c1, .bool q2.b2, .slice q2.a2 q2.n2 q2.c2, .int .i64 1] rfl rfl 38 _ zn8.out (by kernel_rfl) rfl (by kernel_rfl) ?_; rw [← hw8.out]; (have c0 : w8.cell? ⟨w7.heap.size, 0, none⟩ = some (.string ⟨#[97]⟩) := row16_cells z8.out 0)))
    go_ret3
    exact ⟨rfl, hE8.out⟩
end Go.Proofs.YtkkfgphcmnhabaaGreatDoor
namespace Go.Proofs.YtkkfgphcmnhabaaGreatDoor
set_option maxRecDepth 100000
open Go Go.RowKit Go.Proofs
theorem put_chg {w w1 w2 : World} {M : Nat} (h : Ext w w1) (c : Chg w1 w2 (· = M)) (hM : w.heap.size ≤ M) : Ext w w2 := c.ext w h fun k hk e => by omega
set_option maxRecDepth 100000 in
set_option maxHeartbeats 3200000 in
/-- **alive says so.** -/
theorem alive25_c (w : World) (hm : Max0 w) (ht : Tab10 w) : Calls Tryz.prog 5 #[] w fun e w' => e = .returned (.bool true) ∧ Ext w w' := by
  have KN := mkHid (new_c w)
  have KS := mkHid (fun W => small25_f 1 2 W (by decide) (by decide) (by decide) (by decide) (by decide))
  have KS0 := fun W => small25_f 0 1 W (by decide) (by decide) (by decide) (by decide) (by decide)
  rw [zero_div] at KS0
  replace KS0 := mkHid KS0
  have KL := mkHid (fun nm v co W (h : AnyF W v (some (Rat.divInt 1 2))) => lens_c nm v (Rat.divInt 1 2) co W h)
  have KP := mkHid (fun W (e : Ext w W) => parse_two W (hm.ext e))
  have HT := mkHid (fun W (e : Ext w W) => tab_ext ht e)
  have s1 : ((⟨#[99]⟩ : ByteArray).toList == [99]) = true := by rw [ByteArray.toList_eq]; decide
  clear hm ht
  go_enter Tryz.func5, Tryz.ntmps5
  have tok : Tok 0 := .mk _
  go_wp2_with (first
    | ((have _t : Tok 0 := tok); clear _t; clear tok; (have tok : Tok 1 := .mk _); go_at_call 21; refine KN.out.mono ?_; rintro e w1 ⟨g, M, rfl, hc1, hE1, hg, hM⟩; replace hc1 := mkHid hc1; replace hE1 := mkHid hE1; replace hg := mkHid hg; replace hM := mkHid hM)
    | ((have _t : Tok 1 := tok); clear _t; clear tok; (have tok : Tok 2 := .mk _); go_at_call 23; refine (KS.out _).mono ?_; rintro e w2 ⟨v2, rfl, hx, hv2⟩; (have hE2 := mkHid (hE1.out.trans hx)); (have hc2 := mkHid (hc1.out.ext hx)); replace hv2 := mkHid hv2; clear hx)
    | ((have _t : Tok 2 := tok); clear _t; clear tok; (have tok : Tok 3 := .mk _); go_at_call 22; refine (KL.out _ _ _ _ hv2.out).mono ?_; rintro e w3 ⟨p3, q3, rfl, hp3, hq3, hx⟩; (have hE3 := mkHid (hE2.out.trans hx)); (have hc3 := hc2.out.ext hx); (have hP3 := mkHid (put_in (rL ⟨#[97]⟩ 5) p3 q3 w3 g M [] hc3 hp3 hq3 (by decide) dA goes_a rfl (by decide))); clear hx hp3 hq3 hc3 hv2)
    | ((have _t : Tok 3 := tok); clear _t; clear tok; (have tok : Tok 4 := .mk _); go_at_call 14; refine hP3.out.mono ?_; rintro e w4 ⟨rfl, v4, hk4, hc4, ht4⟩; (have hE4 := mkHid (put_chg hE3.out ht4 hM.out)); replace hc4 := mkHid (show Cat w4 g M [(dA, v4)] from hc4); clear hk4 ht4 hP3)
    | ((have _t : Tok 4 := tok); clear _t; clear tok; (have tok : Tok 5 := .mk _); go_at_call 23; refine (KS.out _).mono ?_; rintro e w5 ⟨v5, rfl, hx, hv5⟩; (have hE5 := mkHid (hE4.out.trans hx)); (have hc5 := mkHid (hc4.out.ext hx)); replace hv5 := mkHid hv5; clear hx)
    | ((have _t : Tok 5 := tok); clear _t; clear tok; (have tok : Tok 6 := .mk _); go_at_call 22; refine (KL.out _ _ _ _ hv5.out).mono ?_; rintro e w6 ⟨p6, q6, rfl, hp6, hq6, hx⟩; (have hE6 := mkHid (hE5.out.trans hx)); (have hc6 := hc5.out.ext hx); (have hP6 := mkHid (put_in (rL ⟨#[99]⟩ 4) p6 q6 w6 g M [(dA, v4)] hc6 hp6 hq6 (by decide) dC goes_c rfl (by simp))); clear hx hp6 hq6 hc6 hv5)
    | ((have _t : Tok 6 := tok); clear _t; clear tok; (have tok : Tok 7 := .mk _); go_at_call 14; refine hP6.out.mono ?_; rintro e w7 ⟨rfl, v7, hk7, hc7, ht7⟩; (have hE7 := mkHid (put_chg hE6.out ht7 hM.out)); replace hc7 := mkHid (show Cat w7 g M [(dA, v4), (dC, v7)] from hc7); clear hk7 ht7 hP6)
    | ((have _t : Tok 7 := tok); clear _t; clear tok; (have tok : Tok 8 := .mk _); go_at_call 23; refine (KS.out _).mono ?_; rintro e w8 ⟨v8, rfl, hx, hv8⟩; (have hE8 := mkHid (hE7.out.trans hx)); (have hc8 := mkHid (hc7.out.ext hx)); replace hv8 := mkHid hv8; clear hx)
    | ((have _t : Tok 8 := tok); clear _t; clear tok; (have tok : Tok 9 := .mk _); go_at_call 22; refine (KL.out _ _ _ _ hv8.out).mono ?_; rintro e w9 ⟨p9, q9, rfl, hp9, hq9, hx⟩; (have hE9 := mkHid (hE8.out.trans hx)); (have hc9 := hc8.out.ext hx); (have hP9 := mkHid (put_name p9 q9 ⟨#[65]⟩ 2 4 _ _ w9 g M _ hc9 hp9 hq9 (by decide) name_A)); replace hc9 := mkHid hc9; clear hx hp9 hq9 hv8)
    | ((have _t : Tok 9 := tok); clear _t; clear tok; (have tok : Tok 10 := .mk _); go_at_call 14; refine hP9.out.mono ?_; rintro e w10 ⟨rfl, hx⟩; (have hE10 := mkHid (hE9.out.trans hx)); (have hc10 := mkHid (hc9.out.ext hx)); clear hx hP9)
    | ((have _t : Tok 10 := tok); clear _t; clear tok; (have tok : Tok 11 := .mk _); go_at_call 23; refine (KS.out _).mono ?_; rintro e w11 ⟨v11, rfl, hx, hv11⟩; (have hE11 := mkHid (hE10.out.trans hx)); (have hc11 := mkHid (hc10.out.ext hx)); replace hv11 := mkHid hv11; clear hx)
    | ((have _t : Tok 11 := tok); clear _t; clear tok; (have tok : Tok 12 := .mk _); go_at_call 22; refine (KL.out _ _ _ _ hv11.out).mono ?_; rintro e w12 ⟨p12, q12, rfl, hp12, hq12, hx⟩; (have hE12 := mkHid (hE11.out.trans hx)); (have hc12 := hc11.out.ext hx); (have hP12 := mkHid (put_twice p12 q12 ⟨#[97]⟩ 2 4 _ _ w12 g M _ hc12 hp12 hq12 (by decide) (by kernel_rfl) (by kernel_rfl) (dA, v4) rfl)); replace hc12 := mkHid hc12; clear hx hp12 hq12 hv11)
    | ((have _t : Tok 12 := tok); clear _t; clear tok; (have tok : Tok 13 := .mk _); go_at_call 14; refine hP12.out.mono ?_; rintro e w13 ⟨rfl, hx⟩; (have hE13 := mkHid (hE12.out.trans hx)); (have hc13 := mkHid (hc12.out.ext hx)); clear hx hP12)
    | ((have _t : Tok 13 := tok); clear _t; clear tok; (have tok : Tok 14 := .mk _); go_at_call 23; refine (KS0.out _).mono ?_; rintro e w14 ⟨v14, rfl, hx, hv14⟩; (have hE14 := mkHid (hE13.out.trans hx)); (have hc14 := mkHid (hc13.out.ext hx)); (obtain ⟨pw, rfl⟩ := hv14.fv); replace hv14 := mkHid hv14; clear hx)
    | ((have _t : Tok 14 := tok); clear _t; clear tok; (have tok : Tok 15 := .mk _); go_at_call 17; refine (near_ok pw 0 w14 g M _ hc14.out hv14.out (lens_ac v4 v7)).mono ?_; rintro e w15 ⟨v15, d15, rfl, hn15, hk15, hx⟩; (have hd15 : dC = d15 := Option.some.inj (near_ac.symm.trans hn15)); subst hd15; (have hE15 := mkHid (hE14.out.trans hx)); (have hc15 := hc14.out.ext hx); (obtain ⟨p15, q15, rfl, -, -⟩ := hk15.r.fv);
        (obtain ⟨w16, hw16⟩ : ∃ W, W = (w15.alloc (.cells #[.string ⟨#[]⟩, .int .u8 0, .bool false, .slice none 0 0, .bool false, .slice none 0 0, .bool false, .slice none 0 0, .bool false, .slice none 0 0, .int .i64 0] 38)).setRow w15.heap.size #[.string dC.nm, .int .u8 dC.kd, .bool p15.b1, .slice p15.a1 p15.n1 p15.c1, .bool p15.b2, .slice p15.a2 p15.n2 p15.c2, .bool q15.b1, .slice q15.a1 q15.n1 q15.c1, .bool q15.b2, .slice q15.a2 q15.n2 q15.c2, .int .i64 dC.co] := ⟨_, rfl⟩);
        (have zn := heap_alloc_new w15 (.cells #[.string ⟨#[]⟩, .int .u8 0, .bool false, .slice none 0 0, .bool false, .slice none 0 0, .bool false, .slice none 0 0, .bool false, .slice none 0 0, .int .i64 0] 38));
        (have z16 := mkHid (show w16.heap[w15.heap.size]? = some (.cells #[.string dC.nm, .int .u8 dC.kd, .bool p15.b1, .slice p15.a1 p15.n1 p15.c1, .bool p15.b2, .slice p15.a2 p15.n2 p15.c2, .bool q15.b1, .slice q15.a1 q15.n1 q15.c1, .bool q15.b2, .slice q15.a2 q15.n2 q15.c2, .int .i64 dC.co] 38 (0, 0)) by rw [hw16]; exact setRow_heap _ _ _ _ _ _ zn));
        (have hx16 : Ext w15 w16 := by rw [hw16]; exact ((Ext.refl w15).al _).row (Nat.le_refl _) _);
        (have hE16 := mkHid (hE15.out.trans hx16)); (have hc16 := hc15.ext hx16); (have hT16 := mkHid (text_l w16 g M _ hc16 (HT.out _ hE16.out))); replace hw16 := mkHid hw16; replace zn := mkHid zn; clear hx hx16 hc15 hc16 hk15 hn15)
    | ((have _t : Tok 15 := tok); clear _t; clear tok; (have tok : Tok 16 := .mk _); refine wpList_store_row rfl 38 (.tmp 2) (.tmp 40) rfl w15.heap.size #[.string dC.nm, .int .u8 dC.kd, .bool p15.b1, .slice p15.a1 p15.n1 p15.c1, .bool p15.b2, .slice p15.a2 p15.n2 p15.c2, .bool q15.b1, .slice q15.a1 q15.n1 q15.c1, .bool q15.b2, .slice q15.a2 q15.n2 q15.c2, .int .i64 dC.co] rfl rfl 38 _ zn.out (by kernel_rfl) rfl (by kernel_rfl) ?_; rw [← hw16.out])
    | ((have _t : Tok 16 := tok); clear _t; clear tok; (have tok : Tok 17 := .mk _); go_at_call 24; refine hT16.out.mono ?_; rintro e w17 ⟨he, hx⟩; (have hte : (([(dA, v4), (dC, v7)] : List (PD × Value)).map (·.1)) = [dA, dC] := rfl); rw [hte, text_ac, if_pos (by decide)] at he; subst he; (have hE17 := mkHid (hE16.out.trans hx)); (have z17 := mkHid (hx.blk z16.out)); clear hx hte hT16)
    | ((have _t : Tok 17 := tok); clear _t; clear tok; (have tok : Tok 18 := .mk _); go_at_call 25; refine (KP.out _ hE17.out).mono ?_; rintro e w18 ⟨rfl, hx⟩; (have hE18 := mkHid (hE17.out.trans hx)); (have c0 : w18.cell? ⟨w15.heap.size, 0, none⟩ = some (.string ⟨#[99]⟩) := row16_cells (hx.blk z17.out) 0); clear hx))
  go_ret
  exact ⟨rfl, hE18.out⟩
end Go.Proofs.YtkkfgphcmnhabaaGreatDoor
namespace Go.Proofs.YtkkfgphcmnhabaaGreatDoor
set_option maxRecDepth 100000
open Go Go.RowKit Go.Proofs
def elemC (n1 n2 n3 n4 : Nat) : Int := costV n1 n2 + costV n3 n4
set_option maxRecDepth 100000 in
set_option maxHeartbeats 1600000 in
theorem elementCost_c (kd : Int) (b1 : Bool) (a1 : Option Addr) (n1 c1 : Nat) (b2 : Bool) (a2 : Option Addr) (n2 c2 : Nat) (b3 : Bool) (a3 : Option Addr) (n3 c3 : Nat) (b4 : Bool) (a4 : Option Addr) (n4 c4 : Nat) (w : World) (hn1 : n1 ≤ 140737488355328) (hn2 : n2 ≤ 140737488355328) (hn3 : n3 ≤ 140737488355328) (hn4 : n4 ≤ 140737488355328) :
    Calls Tryz.prog 60 #[.agg #[.int .u8 kd, .bool b1, .slice a1 n1 c1, .bool b2, .slice a2 n2 c2, .bool b3, .slice a3 n3 c3, .bool b4, .slice a4 n4 c4]] w fun e w' => e = .returned (.int .i64 (elemC n1 n2 n3 n4)) ∧ Ext w w' := by
  have k1 := mkHid (fun w => fracCost_c b1 b2 a1 a2 n1 c1 n2 c2 w hn1 hn2)
  have k2 := mkHid (fun w => fracCost_c b3 b4 a3 a4 n3 c3 n4 c4 w hn3 hn4)
  obtain ⟨s1, s2, -, -⟩ := costV_b n1 n2 hn1 hn2
  obtain ⟨t1, t2, -, -⟩ := costV_b n3 n4 hn3 hn4
  unfold elemC
  obtain ⟨S, hS⟩ : ∃ S : Int, S = costV n1 n2 := ⟨_, rfl⟩
  obtain ⟨T, hT⟩ : ∃ T : Int, T = costV n3 n4 := ⟨_, rfl⟩
  rw [← hS] at k1 s1 s2
  rw [← hT] at k2 t1 t2
  rw [← hS, ← hT]
  clear hS hT hn1 hn2 hn3 hn4
  go_enter Tryz.func60, Tryz.ntmps60
  go_wp2_with fail
  obtain ⟨wb, hwb⟩ : ∃ wb, wb = w.alloc (.cells #[.int .u8 kd, .bool b1, .slice a1 n1 c1, .bool b2, .slice a2 n2 c2, .bool b3, .slice a3 n3 c3, .bool b4, .slice a4 n4 c4] 36) := ⟨_, rfl⟩
  have hE : Ext w wb := by rw [hwb]; exact (Ext.refl w).al _
  have z0 : wb.heap[w.heap.size]? = some (.cells #[.int .u8 kd, .bool b1, .slice a1 n1 c1, .bool b2, .slice a2 n2 c2, .bool b3, .slice a3 n3 c3, .bool b4, .slice a4 n4 c4] 36 (0, 0)) := by rw [hwb]; exact heap_alloc_new _ _
  have z_1 : ∀ W, Ext wb W → W.cell? ⟨w.heap.size, 1, none⟩ = some (.bool b1) := fun W e => e.cell (by simp [World.cell?, z0])
  have z_2 : ∀ W, Ext wb W → W.cell? ⟨w.heap.size, 2, none⟩ = some (.slice a1 n1 c1) := fun W e => e.cell (by simp [World.cell?, z0])
  have z_3 : ∀ W, Ext wb W → W.cell? ⟨w.heap.size, 3, none⟩ = some (.bool b2) := fun W e => e.cell (by simp [World.cell?, z0])
  have z_4 : ∀ W, Ext wb W → W.cell? ⟨w.heap.size, 4, none⟩ = some (.slice a2 n2 c2) := fun W e => e.cell (by simp [World.cell?, z0])
  have z_5 : ∀ W, Ext wb W → W.cell? ⟨w.heap.size, 5, none⟩ = some (.bool b3) := fun W e => e.cell (by simp [World.cell?, z0])
  have z_6 : ∀ W, Ext wb W → W.cell? ⟨w.heap.size, 6, none⟩ = some (.slice a3 n3 c3) := fun W e => e.cell (by simp [World.cell?, z0])
  have z_7 : ∀ W, Ext wb W → W.cell? ⟨w.heap.size, 7, none⟩ = some (.bool b4) := fun W e => e.cell (by simp [World.cell?, z0])
  have z_8 : ∀ W, Ext wb W → W.cell? ⟨w.heap.size, 8, none⟩ = some (.slice a4 n4 c4) := fun W e => e.cell (by simp [World.cell?, z0])
  rw [← hwb]
  replace hE := mkHid hE
  clear hwb z0
  apply region_ext [.val _, .val _, .val (.int .i64 S), .val _, .val _, .val (.int .i64 T), .val (.int .i64 (S + T))] (by kernel_rfl) (stable_vals _ (stable_vals _ (stable_vals _ (stable_vals _ (stable_vals _ (stable_vals _ (stable_vals _ trivial)))))))
  iterate 2 (refine ⟨fun W hW _ => by go_simp; exact ⟨Ext.refl _, rfl⟩, ?_⟩)
  refine ⟨fun W hW _ => ?g2, ?_⟩
  case g2 =>
    go_simp
    refine (k1.out W).mono ?_
    rintro e w' ⟨rfl, h1⟩
    exact ⟨rfl, h1⟩
  iterate 2 (refine ⟨fun W hW _ => by go_simp; exact ⟨Ext.refl _, rfl⟩, ?_⟩)
  refine ⟨fun W hW _ => ?g5, ⟨fun W hW _ => by go_simp; exact ⟨Ext.refl _, by rw [IntKind.wrap_i64]; omega⟩, ?_⟩⟩
  case g5 =>
    go_simp
    refine (k2.out W).mono ?_
    rintro e w' ⟨rfl, h1⟩
    exact ⟨rfl, h1⟩
  intro W hW _
  clear z_1 z_2 z_3 z_4 z_5 z_6 z_7 z_8
  replace hE := mkHid (hE.out.trans hW)
  clear hW
  go_simp
  go_wp2_with fail
  go_ret
  exact ⟨by trivial, hE.out⟩
/-- A part of which nothing is long. -/
def SmallV (v : Value) : Prop := ∃ (nm : ByteArray) (kd co : Int) (p q : FV), v = .agg #[.string nm, .int .u8 kd, .bool p.b1, .slice p.a1 p.n1 p.c1, .bool p.b2, .slice p.a2 p.n2 p.c2, .bool q.b1, .slice q.a1 q.n1 q.c1, .bool q.b2, .slice q.a2 q.n2 q.c2, .int .i64 co] ∧ nm.size ≤ 1048576 ∧ p.n1 ≤ 1048576 ∧ p.n2 ≤ 1048576 ∧ q.n1 ≤ 1048576 ∧ q.n2 ≤ 1048576
/-- The loop: what has been counted. -/
def PcR (w1 : World) (vs : List Value) (t3 t4 : Value) (wr : World) : Prop :=
  ∃ (n : Int) (k : Nat), k ≤ vs.length ∧ t3 = .int .i64 n ∧ t4 = .int .i64 k ∧ 0 ≤ n ∧ n ≤ 4503599627370496 ∧ (n ≤ 1048576 → (vs.length : Int) ≤ 1048576 ∧ ∀ v ∈ vs.take k, SmallV v) ∧ Ext w1 wr
def PcQ (w : World) (vs : List Value) (e : Ending) (w' : World) : Prop :=
  ∃ n : Int, e = .returned (.int .i64 n) ∧ 0 ≤ n ∧ n ≤ 4503599627370496 ∧ (n ≤ 1048576 → (vs.length : Int) ≤ 1048576 ∧ ∀ v ∈ vs, SmallV v) ∧ Ext w w'
theorem RawPart.lens {w : World} {v : Value} (h : RawPart w v) : ∃ (nm : ByteArray) (kd co : Int) (p q : FV), v = .agg #[.string nm, .int .u8 kd, .bool p.b1, .slice p.a1 p.n1 p.c1, .bool p.b2, .slice p.a2 p.n2 p.c2, .bool q.b1, .slice q.a1 q.n1 q.c1, .bool q.b2, .slice q.a2 q.n2 q.c2, .int .i64 co] ∧ nm.size ≤ 140737488355328 ∧ p.n1 ≤ 140737488355328 ∧ p.n2 ≤ 140737488355328 ∧ q.n1 ≤ 140737488355328 ∧ q.n2 ≤ 140737488355328 := by
  obtain ⟨nm, kd, co, p, q, e, hs, f1, f2⟩ := h
  obtain ⟨b1, a1, c1, b2, a2, c2, l1, l2, e1, k1, k2, -, -⟩ := f1
  obtain ⟨b3, a3, c3, b4, a4, c4, l3, l4, e2, k3, k4, -, -⟩ := f2
  simp only [Value.agg.injEq, Array.mk.injEq, List.cons.injEq, and_true, Value.slice.injEq] at e1 e2
  exact ⟨nm, kd, co, p, q, e, hs, by omega, by omega, by omega, by omega⟩
set_option maxHeartbeats 3200000 in
theorem partsCost_c (s : Value) (vs : List Value) (w : World) (h : InL w s vs) :
    Calls Tryz.prog 26 #[s] w (PcQ w vs) := by
  obtain ⟨a, c, hs0, hc0⟩ := h.slice
  have hlen := h.len
  have hI := mkHid (fun W (e : Ext w W) => h.ext e)
  obtain ⟨w1, hw1⟩ : ∃ w1, w1 = w := ⟨_, rfl⟩
  rw [← hw1] at hI ⊢
  have hs := mkHid hs0
  subst hs0
  clear h hw1
  go_enter Tryz.func26, Tryz.ntmps26
  go_wp2_with fail
  have st : PcR w1 vs (.int .i64 vs.length) (.int .i64 0) w1 := ⟨vs.length, 0, Nat.zero_le _, rfl, rfl, by omega, by omega, fun h => ⟨h, by simp⟩, Ext.refl _⟩
  replace st := mkHid st
  go_loopw [3, 4] (fun t3 t4 wr => PcR w1 vs t3 t4 wr) (fun _ t4 _ => vs.length - (intOf t4).toNat)
  case atStart => exact st.out
  case round =>
    clear st
    obtain ⟨n, k, hk, rfl, rfl, hn0, hn1, hsm, hEr⟩ := hrel
    obtain ⟨w2, rfl⟩ : ∃ w2 : World, w2 = wr := ⟨_, rfl⟩
    by_cases hlt : k < vs.length
    · have hlt' : (k : Int) < (vs.length : Int) := by omega
      by_cases hm : n ≤ 1048576
      · obtain ⟨hvl, hsmall⟩ := hsm hm
        have hI2 := hI.out w2 hEr
        obtain ⟨b, o, c', e1, hcc, hr⟩ := hI2.get hlt
        simp only [Value.slice.injEq, true_and] at e1
        obtain ⟨rfl, rfl⟩ := e1
        obtain ⟨nm, kd, co, p, q, ev, z0, z1, z2, z3, z4⟩ := (hI2.raw _ (List.getElem_mem hlt)).lens
        rw [ev] at hr
        replace hr : w2.rangeAt b (o + k * 11) [.string nm, .int .u8 kd, .bool p.b1, .slice p.a1 p.n1 p.c1, .bool p.b2, .slice p.a2 p.n2 p.c2, .bool q.b1, .slice q.a1 q.n1 q.c1, .bool q.b2, .slice q.a2 q.n2 q.c2, .int .i64 co] := hr
        have hr1 : w2.rangeAt b (o + k * 11 + 1) [.int .u8 kd, .bool p.b1, .slice p.a1 p.n1 p.c1, .bool p.b2, .slice p.a2 p.n2 p.c2, .bool q.b1, .slice q.a1 q.n1 q.c1, .bool q.b2, .slice q.a2 q.n2 q.c2] := rangeAt_sub hr 1 9
        have c0 : ∀ W, Ext w2 W → W.cell? ⟨b, o + k * 11, none⟩ = some (.string nm) := fun W e => e.cell (hr 0 _ rfl)
        have HR := mkHid (fun W (e : Ext w2 W) => rangeAt_ext hr1 e)
        have KC := mkHid (fun W => elementCost_c kd p.b1 p.a1 p.n1 p.c1 p.b2 p.a2 p.n2 p.c2 q.b1 q.a1 q.n1 q.c1 q.b2 q.a2 q.n2 q.c2 W z1 z2 z3 z4)
        obtain ⟨s1, s2, s3, s4⟩ := costV_b p.n1 p.n2 z1 z2
        obtain ⟨t1, t2, t3, t4⟩ := costV_b q.n1 q.n2 z3 z4
        obtain ⟨E, hE⟩ : ∃ E : Int, E = elemC p.n1 p.n2 q.n1 q.n2 := ⟨_, rfl⟩
        have hE0 : 0 ≤ E := by rw [hE]; unfold elemC; omega
        have hE1 : E ≤ 1125899906842624 := by rw [hE]; unfold elemC; omega
        rw [← hE] at KC
        obtain ⟨m, hmn⟩ : ∃ m : Int, m = nm.size := ⟨_, rfl⟩
        have hm0 : 0 ≤ m := by omega
        have hm1 : m ≤ 140737488355328 := by omega
        have hnew : ∀ W v4, Ext w2 W → v4 = .int .i64 ((k + 1 : Nat) : Int) → PcR w1 vs (.int .i64 (n + m + E)) v4 W := by
          intro W v4 hW hv4
          refine ⟨n + m + E, k + 1, by omega, rfl, hv4, by omega, by omega, fun hle => ⟨hvl, fun v hv => ?_⟩, hEr.trans hW⟩
          rw [List.take_succ_eq_append_getElem hlt] at hv
          rcases List.mem_append.1 hv with hv | hv
          · exact hsmall v hv
          · rw [List.mem_singleton] at hv
            subst hv
            unfold elemC at hE
            exact ⟨nm, kd, co, p, q, ev, by omega, by omega, by omega, by omega, by omega⟩
        have hkk : (o : Int) + k * 11 = ((o + k * 11 : Nat) : Int) := by omega
        replace hnew := mkHid hnew
        replace hEr := mkHid hEr
        replace hmn := mkHid hmn
        clear hI2 hr hr1 hsmall hsm s1 s2 s3 s4 t1 t2 t3 t4 z0 z1 z2 z3 z4 ev hE hkk
        go_wp2_with fail
        apply region_extT [.val (.int .i64 n), .val (.slice (some ⟨b, o, none⟩) vs.length c), .val (.int .i64 k), .val (.pointer (some ⟨b, o + k * 11, none⟩)), .val (.pointer (some ⟨b, o + k * 11, none⟩)), .val (.string nm), .val (.int .i64 m), .val (.int .i64 (n + m)), .val (.slice (some ⟨b, o, none⟩) vs.length c), .val (.int .i64 k), .val (.pointer (some ⟨b, o + k * 11, none⟩)), .val (.pointer (some ⟨b, o + k * 11 + 1, none⟩)), .val (.agg #[.int .u8 kd, .bool p.b1, .slice p.a1 p.n1 p.c1, .bool p.b2, .slice p.a2 p.n2 p.c2, .bool q.b1, .slice q.a1 q.n1 q.c1, .bool q.b2, .slice q.a2 q.n2 q.c2]), .val (.int .i64 E), .val (.int .i64 (n + m + E))] (by kernel_rfl) (stable_vals _ (stable_vals _ (stable_vals _ (stable_vals _ (stable_vals _ (stable_vals _ (stable_vals _ (stable_vals _ (stable_vals _ (stable_vals _ (stable_vals _ (stable_vals _ (stable_vals _ (stable_vals _ (stable_vals _ trivial)))))))))))))))
        iterate 6 (refine ⟨fun W hW _ => by go_simp; first | exact ⟨Ext.refl _, rfl⟩ | exact Ext.refl _, ?_⟩)
        refine ⟨fun W hW _ => by go_simp; first | exact ⟨Ext.refl _, hmn.out.symm⟩ | exact ⟨Ext.refl _, by rw [hmn.out]⟩ | exact Ext.refl _, ?_⟩
        refine ⟨fun W hW _ => by go_simp; exact ⟨Ext.refl _, by rw [IntKind.wrap_i64]; omega⟩, ?_⟩
        iterate 4 (refine ⟨fun W hW _ => by go_simp; first | exact ⟨Ext.refl _, rfl⟩ | exact Ext.refl _, ?_⟩)
        refine ⟨?lf, ?_⟩
        case lf =>
          intro W hW hF
          have hr := HR.out W hW
          with_reducible refine fr_load_mid ?zhw 36 (.tmp 28) ?zho b (o + k * 11 + 1) ?zhx [.int .u8 kd, .bool p.b1, .slice p.a1 p.n1 p.c1, .bool p.b2, .slice p.a2 p.n2 p.c2, .bool q.b1, .slice q.a1 q.n1 q.c1, .bool q.b2, .slice q.a2 q.n2 q.c2] _ hr Tryz.underlying36 ?zhd ?zhi ?zh
          case zhw => kernel_rfl
          case zho => rfl
          case zhx => kernel_rfl
          case zhd => rfl
          case zhi => kernel_rfl
          case zh => exact ⟨Ext.refl _, rfl⟩
        refine ⟨fun W hW _ => ?cf, ⟨fun W hW _ => by go_simp; exact ⟨Ext.refl _, by rw [IntKind.wrap_i64]; omega⟩, ?_⟩⟩
        case cf =>
          go_simp
          refine (KC.out W).mono ?_
          rintro e w' ⟨rfl, h1⟩
          exact ⟨rfl, h1⟩
        intro W hW _
        clear c0 HR KC
        replace hW := mkHid hW
        go_simp
        go_wp2_with fail
        refine ⟨hnew.out _ _ hW.out (by go_num), by simp [intOf]; omega⟩
      · have hd : ¬ n ≤ 1048576 := hm
        have hq : PcQ w1 vs (.returned (.int .i64 n)) w2 := ⟨n, rfl, hn0, hn1, fun h => absurd h hm, hEr⟩
        replace hq := mkHid hq
        clear hsm hEr
        go_wp2_with fail
        go_ret
        exact hq.out
    · have hke : k = vs.length := by omega
      subst hke
      have hq : PcQ w1 vs (.returned (.int .i64 n)) w2 := ⟨n, rfl, hn0, hn1, fun h => by rw [List.take_length] at hsm; exact hsm h, hEr⟩
      replace hq := mkHid hq
      clear hsm hEr
      go_wp2_with fail
      go_ret
      exact hq.out
/-- fits: 'true' only of what is small. -/
theorem fits_c (s : Value) (vs : List Value) (w : World) (h : InL w s vs) :
    Calls Tryz.prog 6 #[s] w fun e w' => ∃ r, e = .returned (.bool r) ∧ (r = true → vs.length ≤ 1048576 ∧ ∀ v ∈ vs, SmallV v) ∧ Ext w w' := by
  have K := mkHid (partsCost_c s vs w h)
  obtain ⟨a, c, rfl, -⟩ := h.slice
  clear h
  go_enter Tryz.func6, Tryz.ntmps6
  have tok : Tok 0 := .mk _
  go_wp2_with (first
    | ((have _t : Tok 0 := tok); clear _t; clear tok; (have tok : Tok 1 := .mk _); go_at_call 26; refine K.out.mono ?_; rintro e w1 ⟨n, rfl, h0, h1, hsm, hE⟩; replace hsm := mkHid hsm; replace hE := mkHid hE)
    | ((have _t : Tok 1 := tok); clear _t; clear tok; (have tok : Tok 2 := .mk _); go_at_call 15; refine (beyond1_c w1.heap.size 1 n _ h0 h1 (by go_simp)).mono ?_; rintro e w2 ⟨v, rfl, hx, r, rfl, hb⟩; replace hb := mkHid hb; replace hE := mkHid ((hE.out.al _).trans hx); clear hx))
  go_ret
  refine ⟨!r, rfl, fun hr => ?_, hE.out⟩
  have := hsm.out (hb.out (by simpa using hr))
  exact ⟨by omega, this.2⟩
end Go.Proofs.YtkkfgphcmnhabaaGreatDoor
namespace Go.Proofs.YtkkfgphcmnhabaaGreatDoor
set_option maxRecDepth 100000
open Go Go.RowKit Go.Proofs
theorem IntR.anyR {w : World} {b : Bool} {a : Option Addr} {n c : Nat} {X : Int} (h : IntR w (.agg #[.bool b, .slice a n c]) X) : b = decide (X < 0) ∧ n = (lim X.natAbs).length ∧ AnyR w (.agg #[.bool b, .slice a (lim X.natAbs).length c]) b (lim X.natAbs) := by
  obtain ⟨s, e, a', c', rfl, k1, k2⟩ := h
  simp only [Value.agg.injEq, Array.mk.injEq, List.cons.injEq, and_true, Value.bool.injEq, Value.slice.injEq] at e
  obtain ⟨rfl, rfl, rfl, rfl⟩ := e
  exact ⟨rfl, rfl, _, _, rfl, lim_ok _, k1, k2⟩
theorem FracR.rawL {w : World} {b1 : Bool} {a1 : Option Addr} {n1 c1 : Nat} {b2 : Bool} {a2 : Option Addr} {n2 c2 : Nat} {q : Rat} (h : FracR w (.agg #[.bool b1, .slice a1 n1 c1, .bool b2, .slice a2 n2 c2]) q) (hq : nf q ≤ 2048) :
    b1 = decide (q.num < 0) ∧ n1 = (lim q.num.natAbs).length ∧ b2 = decide ((q.den : Int) < 0) ∧ n2 = (lim (q.den : Int).natAbs).length ∧ RawL w b1 a1 (lim q.num.natAbs) c1 b2 a2 (lim (q.den : Int).natAbs) c2 := by
  obtain ⟨b1', a1', n1', c1', b2', a2', n2', c2', e, k1, k2⟩ := h
  simp only [Value.agg.injEq, Array.mk.injEq, List.cons.injEq, and_true, Value.bool.injEq, Value.slice.injEq] at e
  obtain ⟨rfl, ⟨rfl, rfl, rfl⟩, rfl, rfl, rfl, rfl⟩ := e
  obtain ⟨e1, e2, r1⟩ := k1.anyR
  obtain ⟨e3, e4, r2⟩ := k2.anyR
  have m1 : (lim q.num.natAbs).length ≤ 2048 := Nat.le_trans (Nat.le_max_left _ _) hq
  have m2 : (lim (q.den : Int).natAbs).length ≤ 2048 := Nat.le_trans (Nat.le_max_right _ _) hq
  exact ⟨e1, e2, e3, e4, Nat.le_trans m1 (by decide), Nat.le_trans m2 (by decide), r1, r2⟩
/-- **SamePart of two readings of one part.** -/
theorem samePart_same (v v' : Value) (d : PD) (w : World) (h : PartR w v d) (h' : PartR w v' d) (hp : nf d.p ≤ 2048) (hq : nf d.q ≤ 2048) :
    Calls Tryz.prog 10 #[v, v'] w fun e w' => e = .returned (.bool true) ∧ Ext w w' := by
  obtain ⟨b1, a1, n1, c1, b2, a2, n2, c2, b3, a3, n3, c3, b4, a4, n4, c4, rfl, h1, h2⟩ := h
  obtain ⟨b1', a1', n1', c1', b2', a2', n2', c2', b3', a3', n3', c3', b4', a4', n4', c4', rfl, h1', h2'⟩ := h'
  obtain ⟨rfl, rfl, rfl, rfl, r1⟩ := h1.rawL hp
  obtain ⟨rfl, rfl, rfl, rfl, r2⟩ := h2.rawL hq
  obtain ⟨rfl, rfl, rfl, rfl, r1'⟩ := h1'.rawL hp
  obtain ⟨rfl, rfl, rfl, rfl, r2'⟩ := h2'.rawL hq
  refine (samePart_l d.nm d.nm d.kd d.kd d.co d.co _ a1 _ c1 _ a2 _ c2 _ a3 _ c3 _ a4 _ c4 _ a1' _ c1' _ a2' _ c2' _ a3' _ c3' _ a4' _ c4' w r1 r2 r1' r2').mono ?_
  rintro e w' ⟨rfl, hx⟩
  refine ⟨?_, hx⟩
  simp [eqI_self]
end Go.Proofs.YtkkfgphcmnhabaaGreatDoor
namespace Go.Proofs.YtkkfgphcmnhabaaGreatDoor
set_option maxRecDepth 100000
open Go Go.RowKit Go.Proofs
theorem cellsP_V (os : List (PD × Value)) : cellsP os = cellsV (os.map (·.2)) := by
  unfold cellsP cellsV
  rw [List.flatMap_map]
theorem row_of_owns11 {w : World} {base E n : Nat} {v : Value} {xs : List Value} (h : w.ownsRow base E 11 v n xs) : ∃ a c, v = .slice a n c ∧ n ≤ c ∧ Row w a xs := by
  obtain ⟨h1, h2⟩ := h
  rcases h2 with ⟨rfl, rfl⟩ | ⟨g, cap, cur, rfl, a2, a3, a4, a5, a6, a7⟩
  · have : xs = [] := List.eq_nil_of_length_eq_zero (by simpa using h1)
    subst this
    exact ⟨none, 0, rfl, Nat.le_refl _, row_nil w⟩
  · refine ⟨_, _, rfl, a4, g, 0, fun _ => rfl, fun j hj => ?_⟩
    have hle : n * 11 ≤ cur.size := by rw [a6]; exact Nat.mul_le_mul_right _ a4
    have hj2 : j < cur.size := by omega
    have hj3 : j < n * 11 := by omega
    have e : xs.getD j undef = cur[j] := by
      subst a7
      simp [List.getD_eq_getElem?_getD, hj3, hj2]
    rw [e]
    simp [World.cell?, a3, hj2]
/-- A list of parts that reads so. -/
structure RowL (w : World) (s : Value) (os : List (PD × Value)) : Prop where
  at' : ∃ a c, s = .slice a os.length c ∧ os.length ≤ c ∧ Row w a (cellsV (os.map (·.2)))
  part : ∀ x ∈ os, PartR w x.2 x.1
theorem RowL.ext {w w' : World} {s : Value} {os : List (PD × Value)} (h : RowL w s os) (e : Ext w w') : RowL w' s os := by
  obtain ⟨⟨a, c, h1, h2, h3⟩, hp⟩ := h
  exact ⟨⟨a, c, h1, h2, h3.ext e⟩, fun x hx => (hp x hx).ext e⟩
theorem RowL.is {w : World} {s : Value} {os : List (PD × Value)} (h : RowL w s os) : Is11 (os.map (·.2)) := fun v hv => by
  obtain ⟨x, hx, rfl⟩ := List.mem_map.1 hv
  obtain ⟨p, q, e, -, -⟩ := (h.part x hx).fv
  exact ⟨_, _, _, p, q, e⟩
theorem rowL_of_owns {w : World} {base : Nat} {s : Value} {os : List (PD × Value)} (h : w.ownsRow base 38 11 s os.length (cellsP os)) (hp : ∀ x ∈ os, PartR w x.2 x.1) : RowL w s os := by
  obtain ⟨a, c, h1, h2, h3⟩ := row_of_owns11 h
  rw [cellsP_V] at h3
  exact ⟨⟨a, c, h1, h2, h3⟩, hp⟩
theorem OutP.rowL {lo : Nat} {w : World} {s : Value} {os : List (PD × Value)} (h : OutP lo w s os) : RowL w s os := rowL_of_owns h.row fun x hx => (h.part x hx).r
theorem row_range7 {w : World} {a : Option Addr} {vs : List Value} (h : Row w a (cellsV vs)) (his : Is11 vs) {k : Nat} (hk : k < vs.length) : ∃ b o, a = some ⟨b, o, none⟩ ∧ w.rangeAt b (o + k * 11) vs[k].cells.toList := by
  obtain ⟨b, o, ha, hr⟩ := h
  have hl := cellsV_len his
  have hne : cellsV vs ≠ [] := by intro e; rw [e, List.length_nil] at hl; omega
  refine ⟨b, o, ha hne, fun j v hv => ?_⟩
  have hcl : vs[k].cells.toList.length = 11 := by
    obtain ⟨nm, kd, co, p, q, e⟩ := his vs[k] (List.getElem_mem hk)
    rw [e]
    rfl
  have hj : j < 11 := by have := (List.getElem?_eq_some_iff.1 hv).1; omega
  have h1 := hr (k * 11 + j) (by omega)
  have h2 := cellsV_at his hk j hj
  rw [List.getD_eq_getElem?_getD, h2] at h1
  have h3 : vs[k].cells[j]? = some v := by simpa using hv
  rw [h3] at h1
  rw [Nat.add_assoc]
  exact h1
/-- One part of such a list. -/
theorem RowL.get {w : World} {s : Value} {os : List (PD × Value)} (h : RowL w s os) {k : Nat} (hk : k < os.length) : ∃ b o c, s = .slice (some ⟨b, o, none⟩) os.length c ∧ os.length ≤ c ∧ ∃ p q : FV, os[k].2 = .agg #[.string os[k].1.nm, .int .u8 os[k].1.kd, .bool p.b1, .slice p.a1 p.n1 p.c1, .bool p.b2, .slice p.a2 p.n2 p.c2, .bool q.b1, .slice q.a1 q.n1 q.c1, .bool q.b2, .slice q.a2 q.n2 q.c2, .int .i64 os[k].1.co] ∧ w.rangeAt b (o + k * 11) [.string os[k].1.nm, .int .u8 os[k].1.kd, .bool p.b1, .slice p.a1 p.n1 p.c1, .bool p.b2, .slice p.a2 p.n2 p.c2, .bool q.b1, .slice q.a1 q.n1 q.c1, .bool q.b2, .slice q.a2 q.n2 q.c2, .int .i64 os[k].1.co] ∧ PartR w (.agg #[.string os[k].1.nm, .int .u8 os[k].1.kd, .bool p.b1, .slice p.a1 p.n1 p.c1, .bool p.b2, .slice p.a2 p.n2 p.c2, .bool q.b1, .slice q.a1 q.n1 q.c1, .bool q.b2, .slice q.a2 q.n2 q.c2, .int .i64 os[k].1.co]) os[k].1 := by
  obtain ⟨a, c, rfl, hc, hr⟩ := h.at'
  obtain ⟨b, o, rfl, h2⟩ := row_range7 hr h.is (k := k) (by simpa using hk)
  have hp := h.part _ (List.getElem_mem hk)
  obtain ⟨p, q, e, -, -⟩ := hp.fv
  rw [e] at hp
  refine ⟨b, o, c, rfl, hc, p, q, e, ?_, hp⟩
  have e2 : (os.map (·.2))[k]'(by simpa using hk) = .agg #[.string os[k].1.nm, .int .u8 os[k].1.kd, .bool p.b1, .slice p.a1 p.n1 p.c1, .bool p.b2, .slice p.a2 p.n2 p.c2, .bool q.b1, .slice q.a1 q.n1 q.c1, .bool q.b2, .slice q.a2 q.n2 q.c2, .int .i64 os[k].1.co] := by simpa using e
  rw [e2] at h2
  exact h2
end Go.Proofs.YtkkfgphcmnhabaaGreatDoor
namespace Go.Proofs.YtkkfgphcmnhabaaGreatDoor
set_option maxRecDepth 100000
open Go Go.RowKit Go.Proofs
theorem raw_in {w : World} {v : Value} (h : RawPart w v) (hs : SmallV v) : ∃ r, PartIn w v r := by
  obtain ⟨nm, kd, co, p, q, rfl, h0, f1, f2⟩ := h
  obtain ⟨nm', kd', co', p', q', e, z0, z1, z2, z3, z4⟩ := hs
  simp only [Value.agg.injEq, Array.mk.injEq, List.cons.injEq, and_true, Value.slice.injEq, Value.string.injEq] at e
  obtain ⟨o1, y1⟩ : ∃ o, AnyF w (.agg #[.bool p.b1, .slice p.a1 p.n1 p.c1, .bool p.b2, .slice p.a2 p.n2 p.c2]) o := by
    obtain ⟨b1, a1, n1, c1, b2, a2, n2, c2, e1, -, -, y⟩ := f1.opened
    simp only [Value.agg.injEq, Array.mk.injEq, List.cons.injEq, and_true, Value.slice.injEq] at e1
    obtain ⟨o, y⟩ := y (by omega) (by omega)
    refine ⟨o, ?_⟩
    obtain ⟨x1, ⟨x2, x3, x4⟩, x5, x6, x7, x8⟩ := e1
    rw [x1, x2, x3, x4, x5, x6, x7, x8]
    exact y
  obtain ⟨o2, y2⟩ : ∃ o, AnyF w (.agg #[.bool q.b1, .slice q.a1 q.n1 q.c1, .bool q.b2, .slice q.a2 q.n2 q.c2]) o := by
    obtain ⟨b1, a1, n1, c1, b2, a2, n2, c2, e1, -, -, y⟩ := f2.opened
    simp only [Value.agg.injEq, Array.mk.injEq, List.cons.injEq, and_true, Value.slice.injEq] at e1
    obtain ⟨o, y⟩ := y (by omega) (by omega)
    refine ⟨o, ?_⟩
    obtain ⟨x1, ⟨x2, x3, x4⟩, x5, x6, x7, x8⟩ := e1
    rw [x1, x2, x3, x4, x5, x6, x7, x8]
    exact y
  exact ⟨⟨nm, kd, co, o1, o2⟩, p, q, rfl, y1, y2, by show nm.size ≤ _; omega⟩
theorem pick_all {α β : Type} (R : α → β → Prop) : ∀ (vs : List β), (∀ v ∈ vs, ∃ r, R r v) → ∃ xs : List (α × β), xs.map (·.2) = vs ∧ ∀ x ∈ xs, R x.1 x.2
  | [], _ => ⟨[], rfl, by simp⟩
  | v :: vs, h => by
    obtain ⟨r, hr⟩ := h v (List.mem_cons_self ..)
    obtain ⟨xs, h1, h2⟩ := pick_all R vs fun u hu => h u (List.mem_cons_of_mem _ hu)
    refine ⟨(r, v) :: xs, by rw [List.map_cons, h1], fun x hx => ?_⟩
    rcases List.mem_cons.1 hx with rfl | hx
    · exact hr
    · exact h2 x hx
theorem inD_of {w : World} {s : Value} {vs : List Value} (h : InL w s vs) (hs : ∀ v ∈ vs, SmallV v) : ∃ xs : List (RD × Value), xs.map (·.2) = vs ∧ InD w s xs := by
  obtain ⟨xs, h1, h2⟩ := pick_all (fun r v => PartIn w v r) vs fun v hv => raw_in (h.raw v hv) (hs v hv)
  refine ⟨xs, h1, ?_, h2⟩
  have hl : xs.length = vs.length := by rw [← h1, List.length_map]
  rw [hl, h1]
  exact h.at'
theorem okPD_nm {d : PD} (h : okPD d) : d.nm.size ≤ 9223372036854775807 := by
  have := h.2.2.1
  unfold nameB at this
  simp only [Bool.and_eq_true, decide_eq_true_eq] at this
  have := this.2.1
  rw [Array.length_toList] at this
  show d.nm.data.size ≤ _
  omega
theorem less_bef10 : ∀ (a b : List UInt8), Op.bytesLess a b = bytesBefore a b
  | [], [] => rfl
  | [], _ :: _ => rfl
  | _ :: _, [] => rfl
  | a :: x, b :: y => by
    show (decide (a < b) || (a == b && Op.bytesLess x y)) = (decide (a < b) || (a == b && bytesBefore x y))
    rw [less_bef10 x y]
end Go.Proofs.YtkkfgphcmnhabaaGreatDoor
namespace Go.Proofs.YtkkfgphcmnhabaaGreatDoor
set_option maxRecDepth 100000
open Go Go.RowKit Go.Proofs
def Stop11 (p : Prop) : Prop := p
theorem Stop11.out {p : Prop} (h : p) : Stop11 p := h
theorem stop11 {p : Prop} (h : Stop11 p) : p := h
/-- A goal that is not looked into (an `obtain` else puts it into its head form, which runs the machine). -/
structure Shut (p : Prop) : Prop where
  open' : p
end Go.Proofs.YtkkfgphcmnhabaaGreatDoor
namespace Go.Proofs.YtkkfgphcmnhabaaGreatDoor
set_option maxRecDepth 100000
open Go Go.RowKit Go.Proofs
theorem lt_tr {a b c : Rat} (h1 : a < b) (h2 : b < c) : a < c := by grind
theorem lt_ir {a : Rat} : ¬ a < a := by grind
theorem cS_iff (a b : Rat) : (cS a b < 0 ↔ a < b) ∧ (cS a b = 0 ↔ a = b) := by
  have h1 := Rat.lt_iff (a := a) (b := b)
  have h2 := Rat.lt_iff (a := b) (b := a)
  have key : ∀ P Q : Int, ((P - Q).sign < 0 ↔ P < Q) ∧ ((P - Q).sign = 0 ↔ P = Q) := by
    intro P Q
    rcases Int.lt_trichotomy (P - Q) 0 with h | h | h
    · rw [Int.sign_eq_neg_one_of_neg h]
      constructor <;> constructor <;> intro _ <;> omega
    · rw [h]
      constructor <;> constructor <;> intro h3 <;> first | omega | rfl | (simp at h3)
    · rw [Int.sign_eq_one_of_pos h]
      constructor <;> constructor <;> intro _ <;> omega
  obtain ⟨k1, k2⟩ := key (a.num * b.den) (b.num * a.den)
  unfold cS
  refine ⟨k1.trans h1.symm, k2.trans ⟨fun h => ?_, fun h => by rw [h]⟩⟩
  refine Rat.le_antisymm (Rat.not_lt.1 fun h3 => ?_) (Rat.not_lt.1 fun h3 => ?_)
  · have := h2.1 h3
    omega
  · have := h1.1 h3
    omega
/-- Of two parts the first stands no way before the second. -/
def worse (x : Rat) (d m : PD) : Prop := offP x m < offP x d ∨ (offP x m = offP x d ∧ (m.co < d.co ∨ (m.co = d.co ∧ bytesBefore d.nm.data.toList m.nm.data.toList = false)))
theorem name_trans {a b c : List UInt8} (h1 : bytesBefore a b = false) (h2 : bytesBefore b c = false) : bytesBefore a c = false := by
  cases h : bytesBefore a c with
  | false => rfl
  | true =>
    have hac := before_lt _ _ h
    by_cases e : a = b
    · rw [e] at h
      rw [h] at h2
      cases h2
    · rcases WideAt.bytes_total a b e with h3 | h3
      · rw [h3] at h1
        cases h1
      · have hbc := List.lt_trans (before_lt _ _ h3) hac
        by_cases e2 : b = c
        · rw [e2] at hbc
          exact absurd hbc (List.lt_irrefl _)
        · rcases WideAt.bytes_total b c e2 with h4 | h4
          · rw [h4] at h2
            cases h2
          · exact absurd (List.lt_trans hbc (before_lt _ _ h4)) (List.lt_irrefl _)
theorem worse_refl (x : Rat) (d : PD) : worse x d d := .inr ⟨rfl, .inr ⟨rfl, WideAt.bytes_irrefl _⟩⟩
theorem worse_trans {x : Rat} {a b c : PD} (h1 : worse x a b) (h2 : worse x b c) : worse x a c := by
  unfold worse at *
  generalize offP x a = p at *
  generalize offP x b = q at *
  generalize offP x c = r at *
  rcases h1 with h1 | ⟨h1, h1'⟩
  · rcases h2 with h2 | ⟨h2, _⟩
    · exact .inl (lt_tr h2 h1)
    · exact .inl (h2 ▸ h1)
  · rcases h2 with h2 | ⟨h2, h2'⟩
    · exact .inl (h1 ▸ h2)
    · refine .inr ⟨h2.trans h1, ?_⟩
      rcases h1' with k1 | ⟨k1, k1'⟩
      · rcases h2' with k2 | ⟨k2, _⟩
        · exact .inl (by omega)
        · exact .inl (by omega)
      · rcases h2' with k2 | ⟨k2, k2'⟩
        · exact .inl (by omega)
        · exact .inr ⟨by omega, name_trans k1' k2'⟩
theorem less_worse {x : Rat} {d b : PD} (h : lessP x d b = true) : worse x b d := by
  unfold lessP at h
  simp only [Bool.or_eq_true, decide_eq_true_eq, Bool.and_eq_true] at h
  obtain ⟨k1, k2⟩ := cS_iff (offP x d) (offP x b)
  rcases h with h | ⟨h, hc⟩
  · exact .inl (k1.1 h)
  · exact .inr ⟨k2.1 h, .inl hc⟩
theorem not_less_worse {x : Rat} {d b : PD} (hb : bef b d = true) (h : ¬ lessP x d b = true) : worse x d b := by
  unfold lessP at h
  simp only [Bool.or_eq_true, decide_eq_true_eq, Bool.and_eq_true, not_or] at h
  obtain ⟨k1, k2⟩ := cS_iff (offP x d) (offP x b)
  have hn : bytesBefore d.nm.data.toList b.nm.data.toList = false := by
    cases hq : bytesBefore d.nm.data.toList b.nm.data.toList with
    | false => rfl
    | true => exact absurd (List.lt_trans (before_lt _ _ hb) (before_lt _ _ hq)) (List.lt_irrefl _)
  have h1 : offP x b ≤ offP x d := Rat.not_lt.1 fun h3 => h.1 (k1.2 h3)
  by_cases he : offP x b = offP x d
  · refine .inr ⟨he, ?_⟩
    have h2 : ¬ d.co < b.co := fun h3 => h.2 ⟨k2.2 he.symm, h3⟩
    by_cases hc : b.co = d.co
    · exact .inr ⟨hc, hn⟩
    · exact .inl (by omega)
  · exact .inl (Rat.lt_of_le_of_ne h1 he)
theorem near_least (x : Rat) : ∀ (l : List PD) (o : Option PD) (m : PD), nearG x o l = some m → l.Pairwise (fun a b => bef a b = true) → (∀ b, o = some b → lensB b = true ∧ ∀ d ∈ l, bef b d = true) →
    lensB m = true ∧ (m ∈ l ∨ o = some m) ∧ (∀ d ∈ l, lensB d = true → worse x d m) ∧ (∀ b, o = some b → worse x b m)
  | [], o, m, h, _, ho => by
    have h : o = some m := h
    exact ⟨(ho m h).1, .inr h, by simp, fun b hb => by rw [h] at hb; cases hb; exact worse_refl x m⟩
  | d :: r, o, m, h, hp, ho => by
    obtain ⟨h3, h4⟩ := List.pairwise_cons.1 hp
    unfold nearG at h
    by_cases hl : lensB d = true
    · rw [if_pos hl] at h
      cases o with
      | none =>
        obtain ⟨a1, a2, a3, a4⟩ := near_least x r (some d) m h h4 (fun b hb => by cases hb; exact ⟨hl, h3⟩)
        refine ⟨a1, .inl ?_, fun e he hle => ?_, fun b hb => by cases hb⟩
        · rcases a2 with a2 | a2
          · exact List.mem_cons_of_mem _ a2
          · cases a2; exact List.mem_cons_self ..
        · rcases List.mem_cons.1 he with rfl | he
          · exact a4 _ rfl
          · exact a3 e he hle
      | some b =>
        obtain ⟨hbl, hbb⟩ := ho b rfl
        have h : nearG x (some (if lessP x d b then d else b)) r = some m := h
        by_cases hq : lessP x d b = true
        · rw [if_pos hq] at h
          obtain ⟨a1, a2, a3, a4⟩ := near_least x r (some d) m h h4 (fun b hb => by cases hb; exact ⟨hl, h3⟩)
          refine ⟨a1, .inl ?_, fun e he hle => ?_, fun b' hb' => ?_⟩
          · rcases a2 with a2 | a2
            · exact List.mem_cons_of_mem _ a2
            · cases a2; exact List.mem_cons_self ..
          · rcases List.mem_cons.1 he with rfl | he
            · exact a4 _ rfl
            · exact a3 e he hle
          · cases hb'
            exact worse_trans (less_worse hq) (a4 _ rfl)
        · rw [if_neg hq] at h
          obtain ⟨a1, a2, a3, a4⟩ := near_least x r (some b) m h h4 (fun b' hb' => by cases hb'; exact ⟨hbl, fun e he => hbb e (List.mem_cons_of_mem _ he)⟩)
          refine ⟨a1, ?_, fun e he hle => ?_, fun b' hb' => ?_⟩
          · rcases a2 with a2 | a2
            · exact .inl (List.mem_cons_of_mem _ a2)
            · exact .inr a2
          · rcases List.mem_cons.1 he with rfl | he
            · exact worse_trans (not_less_worse (hbb _ (List.mem_cons_self ..)) hq) (a4 _ rfl)
            · exact a3 e he hle
          · cases hb'
            exact a4 _ rfl
    · rw [if_neg hl] at h
      obtain ⟨a1, a2, a3, a4⟩ := near_least x r o m h h4 (fun b hb => ⟨(ho b hb).1, fun e he => (ho b hb).2 e (List.mem_cons_of_mem _ he)⟩)
      refine ⟨a1, ?_, fun e he hle => ?_, a4⟩
      · rcases a2 with a2 | a2
        · exact .inl (List.mem_cons_of_mem _ a2)
        · exact .inr a2
      · rcases List.mem_cons.1 he with rfl | he
        · exact absurd hle hl
        · exact a3 e he hle
/-- What the law asks of two parts. -/
theorem worse_test {x : Rat} {d m : PD} (h : worse x d m) : ¬ cS (offP x d) (offP x m) < 0 ∧ (cS (offP x d) (offP x m) = 0 → ¬ d.co < m.co ∧ (d.co = m.co → bytesBefore d.nm.data.toList m.nm.data.toList = false)) := by
  obtain ⟨k1, k2⟩ := cS_iff (offP x d) (offP x m)
  rw [k1, k2]
  rcases h with h | ⟨h, h'⟩
  · exact ⟨fun h3 => absurd (lt_tr h h3) (lt_ir), fun h3 => by rw [h3] at h; exact absurd h (lt_ir)⟩
  · refine ⟨fun h3 => by rw [h] at h3; exact absurd h3 (lt_ir), fun _ => ?_⟩
    rcases h' with h' | ⟨h', hn⟩
    · exact ⟨by omega, fun e => by omega⟩
    · exact ⟨by omega, fun _ => hn⟩
end Go.Proofs.YtkkfgphcmnhabaaGreatDoor
