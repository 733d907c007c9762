/-
  The catalogue that is gone: its methods, and the reference's: printed by tools/gen_gone.py. polestarref01: trim, signed, cmp. polestarref01: add, sub. polestarref01: mul, times. polestarref01: short, half, even. polestarref01: fitting. polestarref01: divide. frac: always, do, Mul, Sub. frac: Mul, Sub. frac: Make, Of; the law's whole. law14: whole, matrix. law01: SameInt.
-/
import Derived.Test.YtplhndmncjoghaaGreatDoorMAB
import Derived.Test.YtplhndmncjoghaaGreatDoorMAE
import Derived.LoopN
import Derived.Test.YtplhndmncjoghaaGreatDoorMAC
import Derived.Test.YtplhndmncjoghaaGreatDoorMAD
import Derived.Laws.AppendOwnNone
namespace Go.Proofs.YtplhndmncjoghaaGreatDoor
set_option maxRecDepth 100000
open Go Go.RowKit Go.Proofs
/-- One that is not there, or a zero one. -/
def GoneP (w : World) (c : Value) : Prop := c = .pointer none ∨ ∃ g, c = .pointer (some ⟨g, 0, none⟩) ∧ w.heap[g]? = some (.cells #[.map none] 44 (0, 0))
theorem GoneP.ext {w w' : World} {c : Value} (h : GoneP w c) (e : Ext w w') : GoneP w' c := by
  rcases h with h | ⟨g, h, k⟩
  · exact .inl h
  · exact .inr ⟨g, h, e.blk k⟩
theorem cell0 {w : World} {g T : Nat} {v : Value} (h : w.heap[g]? = some (.cells #[v] T (0, 0))) : w.cell? ⟨g, 0, none⟩ = some v := by simp [World.cell?, h]
theorem gone_g (c : Value) (w : World) (h : GoneP w c) : Calls Tryz.prog 27 #[c] w fun e w' => e = .returned (.bool true) ∧ w = w' := by
  rcases h with rfl | ⟨g, rfl, k⟩
  · go_enter Tryz.func27, Tryz.ntmps27
    go_wp2_with fail
    go_ret
    exact ⟨rfl, rfl⟩
  · have k0 := cell0 k
    clear k
    have hm : ∀ W, Sem.run Tryz.prog (binOp BinOp.eql 42 (Value.map none) (Value.map none)) W = Result.ok (.bool true) W := fun W => by kernel_rfl
    go_enter Tryz.func27, Tryz.ntmps27
    go_wp2_with fail
    go_ret
    exact ⟨rfl, rfl⟩
/-- A part of nothing. -/
abbrev zeroP : Array Value := #[.string ⟨#[]⟩, .int .u8 0, .bool false, .slice none 0 0, .bool false, .slice none 0 0, .bool false, .slice none 0 0, .bool false, .slice none 0 0, .int .i64 0]
abbrev goneR : Array Value := #[.bool true, .slice none 0 0]
set_option maxRecDepth 100000 in
set_option maxHeartbeats 1600000 in
theorem put_g (v0 v1 v2 v3 v4 v5 v6 v7 v8 v9 v10 : Value) (c : Value) (w : World) (h : GoneP w c) :
    Calls Tryz.prog 11 #[c, .agg #[v0, v1, v2, v3, v4, v5, v6, v7, v8, v9, v10]] w fun e w' => e = .returned (.int .i64 2) ∧ Ext w w' := by
  have kg := mkHid (fun W (e : Ext w W) => gone_g c W (h.ext e))
  clear h
  go_enter Tryz.func11, Tryz.ntmps11
  go_wp2_with (go_at_call 27; refine (kg.out _ (by exact (Ext.refl _).al _)).mono ?_; rintro e w1 ⟨rfl, rfl⟩)
  go_ret
  exact ⟨rfl, (Ext.refl _).al _⟩
set_option maxRecDepth 100000 in
set_option maxHeartbeats 1600000 in
theorem drop_g (nm : ByteArray) (c : Value) (w : World) (h : GoneP w c) :
    Calls Tryz.prog 16 #[c, .string nm] w fun e w' => e = .returned (.int .i64 2) ∧ Ext w w' := by
  have kg := mkHid (fun W (e : Ext w W) => gone_g c W (h.ext e))
  clear h
  go_enter Tryz.func16, Tryz.ntmps16
  go_wp2_with (go_at_call 27; refine (kg.out _ (by exact Ext.refl _)).mono ?_; rintro e w1 ⟨rfl, rfl⟩)
  go_ret
  exact ⟨rfl, Ext.refl _⟩
set_option maxRecDepth 100000 in
set_option maxHeartbeats 1600000 in
theorem all_g  (c : Value) (w : World) (h : GoneP w c) :
    Calls Tryz.prog 6 #[c] w fun e w' => e = .returned (.slice none 0 0) ∧ Ext w w' := by
  have kg := mkHid (fun W (e : Ext w W) => gone_g c W (h.ext e))
  clear h
  go_enter Tryz.func6, Tryz.ntmps6
  go_wp2_with (go_at_call 27; refine (kg.out _ (by exact Ext.refl _)).mono ?_; rintro e w1 ⟨rfl, rfl⟩)
  go_ret
  exact ⟨rfl, Ext.refl _⟩
set_option maxRecDepth 100000 in
set_option maxHeartbeats 1600000 in
theorem text_g  (c : Value) (w : World) (h : GoneP w c) :
    Calls Tryz.prog 24 #[c] w fun e w' => e = .returned (.tuple #[.string ⟨#[]⟩, .int .i64 2]) ∧ Ext w w' := by
  have kg := mkHid (fun W (e : Ext w W) => gone_g c W (h.ext e))
  clear h
  go_enter Tryz.func24, Tryz.ntmps24
  go_wp2_with (go_at_call 27; refine (kg.out _ (by exact Ext.refl _)).mono ?_; rintro e w1 ⟨rfl, rfl⟩)
  go_ret2
  exact ⟨rfl, Ext.refl _⟩
set_option maxRecDepth 100000 in
set_option maxHeartbeats 1600000 in
theorem get_g (nm : ByteArray) (c : Value) (w : World) (h : GoneP w c) :
    Calls Tryz.prog 17 #[c, .string nm] w fun e w' => e = .returned (.tuple #[.agg #[.string ⟨#[]⟩, .int .u8 0, .bool false, .slice none 0 0, .bool false, .slice none 0 0, .bool false, .slice none 0 0, .bool false, .slice none 0 0, .int .i64 0], .bool false]) ∧ Ext w w' := by
  have kg := mkHid (fun W (e : Ext w W) => gone_g c W (h.ext e))
  clear h
  obtain ⟨wb, hwb⟩ : ∃ wb, wb = w.alloc (.cells #[.string ⟨#[]⟩, .int .u8 0, .bool false, .slice none 0 0, .bool false, .slice none 0 0, .bool false, .slice none 0 0, .bool false, .slice none 0 0, .int .i64 0] 31) := ⟨_, rfl⟩
  have hE : Ext w wb := by rw [hwb]; exact (Ext.refl _).al _
  have zB : wb.heap[w.heap.size]? = some (.cells #[.string ⟨#[]⟩, .int .u8 0, .bool false, .slice none 0 0, .bool false, .slice none 0 0, .bool false, .slice none 0 0, .bool false, .slice none 0 0, .int .i64 0] 31 (0, 0)) := by rw [hwb]; exact heap_alloc_new _ _
  have FE := mkHid (hE.row (Nat.le_refl _) #[.string ⟨#[]⟩, .int .u8 0, .bool false, .slice none 0 0, .bool false, .slice none 0 0, .bool false, .slice none 0 0, .bool false, .slice none 0 0, .int .i64 0])
  have kk := mkHid (kg.out _ hE)
  clear kg
  replace hwb := mkHid hwb
  go_enter Tryz.func17, Tryz.ntmps17
  go_wp2_with (first
    | (go_at_call 27; rw [← hwb.out]; refine kk.out.mono ?_; rintro e w1 ⟨rfl, rfl⟩)
    | (refine wpList_store_row rfl 31 (.tmp 4) (.tmp 10) rfl w.heap.size #[.string ⟨#[]⟩, .int .u8 0, .bool false, .slice none 0 0, .bool false, .slice none 0 0, .bool false, .slice none 0 0, .bool false, .slice none 0 0, .int .i64 0] rfl rfl 31 _ zB (by kernel_rfl) rfl (by kernel_rfl) ?_))
  exact bodyPost_ret (results_row_tmp rfl _ _ w.heap.size 31 #[.string ⟨#[]⟩, .int .u8 0, .bool false, .slice none 0 0, .bool false, .slice none 0 0, .bool false, .slice none 0 0, .bool false, .slice none 0 0, .int .i64 0] _ _ rfl rfl (setRow_heap _ _ _ _ _ _ zB) Tryz.underlying31 rfl (by kernel_rfl)) rfl ⟨rfl, FE.out⟩
set_option maxRecDepth 100000 in
set_option maxHeartbeats 1600000 in
theorem near_g (v0 v1 v2 v3 : Value) (c : Value) (w : World) (h : GoneP w c) :
    Calls Tryz.prog 21 #[c, .agg #[v0, v1, v2, v3]] w fun e w' => e = .returned (.tuple #[.agg #[.string ⟨#[]⟩, .int .u8 0, .bool false, .slice none 0 0, .bool false, .slice none 0 0, .bool false, .slice none 0 0, .bool false, .slice none 0 0, .int .i64 0], .int .i64 2]) ∧ Ext w w' := by
  have kg := mkHid (fun W (e : Ext w W) => gone_g c W (h.ext e))
  clear h
  obtain ⟨wb, hwb⟩ : ∃ wb, wb = (w.alloc (.cells #[v0, v1, v2, v3] 27)).alloc (.cells #[.string ⟨#[]⟩, .int .u8 0, .bool false, .slice none 0 0, .bool false, .slice none 0 0, .bool false, .slice none 0 0, .bool false, .slice none 0 0, .int .i64 0] 31) := ⟨_, rfl⟩
  have hE : Ext w wb := by rw [hwb]; exact ((Ext.refl _).al _).al _
  have zB : wb.heap[w.heap.size + 1]? = some (.cells #[.string ⟨#[]⟩, .int .u8 0, .bool false, .slice none 0 0, .bool false, .slice none 0 0, .bool false, .slice none 0 0, .bool false, .slice none 0 0, .int .i64 0] 31 (0, 0)) := by rw [hwb]; exact heap_at _ _ _ (by simp)
  have FE := mkHid (hE.row (show w.heap.size ≤ w.heap.size + 1 by omega) #[.string ⟨#[]⟩, .int .u8 0, .bool false, .slice none 0 0, .bool false, .slice none 0 0, .bool false, .slice none 0 0, .bool false, .slice none 0 0, .int .i64 0])
  have kk := mkHid (kg.out _ hE)
  clear kg
  replace hwb := mkHid hwb
  go_enter Tryz.func21, Tryz.ntmps21
  go_wp2_with (first
    | (go_at_call 27; rw [← hwb.out]; refine kk.out.mono ?_; rintro e w1 ⟨rfl, rfl⟩)
    | (refine wpList_store_row rfl 31 (.tmp 4) (.tmp 11) rfl (w.heap.size + 1) #[.string ⟨#[]⟩, .int .u8 0, .bool false, .slice none 0 0, .bool false, .slice none 0 0, .bool false, .slice none 0 0, .bool false, .slice none 0 0, .int .i64 0] rfl rfl 31 _ zB (by kernel_rfl) rfl (by kernel_rfl) ?_))
  exact bodyPost_ret (results_row_tmp rfl _ _ (w.heap.size + 1) 31 #[.string ⟨#[]⟩, .int .u8 0, .bool false, .slice none 0 0, .bool false, .slice none 0 0, .bool false, .slice none 0 0, .bool false, .slice none 0 0, .int .i64 0] _ _ rfl rfl (setRow_heap _ _ _ _ _ _ zB) Tryz.underlying31 rfl (by kernel_rfl)) rfl ⟨rfl, FE.out⟩
set_option maxRecDepth 100000 in
set_option maxHeartbeats 1600000 in
theorem rput_g (v0 v1 v2 v3 v4 v5 v6 v7 v8 v9 v10 : Value) (w : World) :
    Calls Tryz.prog 10 #[.agg #[.bool true, .slice none 0 0], .agg #[v0, v1, v2, v3, v4, v5, v6, v7, v8, v9, v10]] w fun e w' => e = .returned (.tuple #[.agg #[.bool true, .slice none 0 0], .int .i64 2]) ∧ Ext w w' := by
  go_enter Tryz.func10, Tryz.ntmps10
  go_wp2_with fail
  exact bodyPost_ret (results_row_tmp rfl _ _ (w.heap.size + 2) 39 #[.bool true, .slice none 0 0] _ _ rfl rfl (heap_at _ _ _ (by simp)) Tryz.underlying39 rfl (by kernel_rfl)) rfl ⟨rfl, (((Ext.refl w).al _).al _).al _⟩
set_option maxRecDepth 100000 in
set_option maxHeartbeats 1600000 in
theorem rdrop_g (nm : ByteArray) (w : World) :
    Calls Tryz.prog 15 #[.agg #[.bool true, .slice none 0 0], .string nm] w fun e w' => e = .returned (.tuple #[.agg #[.bool true, .slice none 0 0], .int .i64 2]) ∧ Ext w w' := by
  go_enter Tryz.func15, Tryz.ntmps15
  go_wp2_with fail
  exact bodyPost_ret (results_row_tmp rfl _ _ (w.heap.size + 1) 39 #[.bool true, .slice none 0 0] _ _ rfl rfl (heap_at _ _ _ (by simp)) Tryz.underlying39 rfl (by kernel_rfl)) rfl ⟨rfl, ((Ext.refl w).al _).al _⟩
set_option maxRecDepth 100000 in
set_option maxHeartbeats 1600000 in
theorem rplace_g (nm : ByteArray) (w : World) :
    Calls Tryz.prog 36 #[.agg #[.bool true, .slice none 0 0], .string nm] w fun e w' => e = .returned (.tuple #[.int .i64 0, .bool false]) ∧ Ext w w' := by
  go_enter Tryz.func36, Tryz.ntmps36
  go_wp2_with fail
  refine wp_loop_rounds 1 ?_
  rw [rounds_succ]
  go_wp2_with fail
  go_ret2
  exact ⟨rfl, (Ext.refl w).al _⟩
set_option maxRecDepth 100000 in
set_option maxHeartbeats 1600000 in
theorem rtext_g  (w : World) :
    Calls Tryz.prog 25 #[.agg #[.bool true, .slice none 0 0]] w fun e w' => e = .returned (.tuple #[.string ⟨#[]⟩, .int .i64 2]) ∧ Ext w w' := by
  go_enter Tryz.func25, Tryz.ntmps25
  go_wp2_with fail
  go_ret2
  exact ⟨rfl, (Ext.refl w).al _⟩
set_option maxRecDepth 100000 in
set_option maxHeartbeats 1600000 in
theorem rget_g (nm : ByteArray) (w : World) :
    Calls Tryz.prog 18 #[.agg #[.bool true, .slice none 0 0], .string nm] w fun e w' => e = .returned (.tuple #[.agg #[.string ⟨#[]⟩, .int .u8 0, .bool false, .slice none 0 0, .bool false, .slice none 0 0, .bool false, .slice none 0 0, .bool false, .slice none 0 0, .int .i64 0], .bool false]) ∧ Ext w w' := by
  have kp := mkHid (fun W => rplace_g nm W)
  obtain ⟨wb, hwb⟩ : ∃ wb, wb = (w.alloc (.cells #[.bool true, .slice none 0 0] 39)).alloc (.cells #[.string ⟨#[]⟩, .int .u8 0, .bool false, .slice none 0 0, .bool false, .slice none 0 0, .bool false, .slice none 0 0, .bool false, .slice none 0 0, .int .i64 0] 31) := ⟨_, rfl⟩
  have hE : Ext w wb := by rw [hwb]; exact ((Ext.refl _).al _).al _
  have zA : wb.heap[w.heap.size]? = some (.cells #[.bool true, .slice none 0 0] 39 (0, 0)) := by rw [hwb]; exact (heap_alloc_old _ _ (by simp)).trans (heap_alloc_new _ _)
  have zB : wb.heap[w.heap.size + 1]? = some (.cells #[.string ⟨#[]⟩, .int .u8 0, .bool false, .slice none 0 0, .bool false, .slice none 0 0, .bool false, .slice none 0 0, .bool false, .slice none 0 0, .int .i64 0] 31 (0, 0)) := by rw [hwb]; exact heap_at _ _ _ (by simp)
  replace hwb := mkHid hwb
  have zC := row2_cells zA
  clear zA
  go_enter Tryz.func18, Tryz.ntmps18
  go_wp2_with fail
  rw [← hwb.out]
  go_wp2_with (first
    | (go_at_call 36; refine (kp.out _).mono ?_; rintro e w1 ⟨rfl, hE1⟩; replace zB := mkHid (hE1.blk zB); replace hE := mkHid (hE.trans hE1); clear hE1 zC)
    | (refine wpList_store_row rfl 31 (.tmp 4) (.tmp 16) rfl (w.heap.size + 1) #[.string ⟨#[]⟩, .int .u8 0, .bool false, .slice none 0 0, .bool false, .slice none 0 0, .bool false, .slice none 0 0, .bool false, .slice none 0 0, .int .i64 0] rfl rfl 31 _ zB.out (by kernel_rfl) rfl (by kernel_rfl) ?_))
  exact bodyPost_ret (results_row_tmp rfl _ _ (w.heap.size + 1) 31 #[.string ⟨#[]⟩, .int .u8 0, .bool false, .slice none 0 0, .bool false, .slice none 0 0, .bool false, .slice none 0 0, .bool false, .slice none 0 0, .int .i64 0] _ _ rfl rfl (setRow_heap _ _ _ _ _ _ zB.out) Tryz.underlying31 rfl (by kernel_rfl)) rfl ⟨rfl, hE.out.row (show w.heap.size ≤ w.heap.size + 1 by omega) _⟩
set_option maxRecDepth 100000 in
set_option maxHeartbeats 1600000 in
theorem rnear_g (v0 v1 v2 v3 : Value) (w : World) :
    Calls Tryz.prog 22 #[.agg #[.bool true, .slice none 0 0], .agg #[v0, v1, v2, v3]] w fun e w' => e = .returned (.tuple #[.agg #[.string ⟨#[]⟩, .int .u8 0, .bool false, .slice none 0 0, .bool false, .slice none 0 0, .bool false, .slice none 0 0, .bool false, .slice none 0 0, .int .i64 0], .int .i64 2]) ∧ Ext w w' := by
  go_enter Tryz.func22, Tryz.ntmps22
  go_wp2_with fail
  exact bodyPost_ret (results_row_tmp rfl _ _ (w.heap.size + 2) 31 #[.string ⟨#[]⟩, .int .u8 0, .bool false, .slice none 0 0, .bool false, .slice none 0 0, .bool false, .slice none 0 0, .bool false, .slice none 0 0, .int .i64 0] _ _ rfl rfl (heap_at _ _ _ (by simp)) Tryz.underlying31 rfl (by kernel_rfl)) rfl ⟨rfl, (((Ext.refl w).al _).al _).al _⟩
end Go.Proofs.YtplhndmncjoghaaGreatDoor
namespace Go.Proofs.YtplhndmncjoghaaGreatDoor
set_option maxRecDepth 100000
open Go Go.RowKit Go.Proofs
theorem magR_nil (w : World) : MagR w (.slice none 0 0) [] := ⟨none, 0, rfl, Nat.le_refl _, row_nil w⟩
set_option maxHeartbeats 800000 in
theorem rtrim_c (a : Option Addr) (l : List Nat) (c : Nat) (w : World) (hok : OkL l) (hlen : l.length ≤ 4294967296) (hcap : l.length ≤ c) (h : Row w a (limV l)) :
    Calls Tryz.prog 254 #[.slice a l.length c] w fun e w' => e = .returned (.slice a (lim (val l)).length c) ∧ w = w' := by
  obtain ⟨b, off, ha, hc⟩ := h
  replace hc := mkHid hc
  replace ha := mkHid ha
  go_enter Tryz.func254, Tryz.ntmps254
  go_wp2_with fail
  go_loop [0] (fun s => ∃ m : Nat, m ≤ l.length ∧ s = .slice a m c ∧ val (l.take m) = val l) (fun s => match s with | .slice _ n _ => n | _ => 0)
  case atStart => exact ⟨l.length, Nat.le_refl _, rfl, by rw [List.take_length]⟩
  case round =>
    obtain ⟨m, hm, rfl, hv⟩ := hrel
    replace hv := mkHid hv
    by_cases h0 : m = 0
    · subst h0
      have e0 : lim (val l) = [] := by rw [← hv.out, List.take_zero]; exact lim_zero
      replace e0 := mkHid (congrArg List.length e0)
      go_wp2_with fail
      go_ret
      exact ⟨by rw [e0.out]; rfl, rfl⟩
    · obtain ⟨k, rfl⟩ : ∃ k, m = k + 1 := ⟨m - 1, by omega⟩
      have hcell := hc.out k (by rw [limV_length]; omega)
      rw [limV_getD _ _ (by omega)] at hcell
      have ha2 := ha.out (limV_ne (show k < l.length by omega))
      by_cases hz : l.getD k 0 = 0
      · have HV : Hid (val (l.take k) = val l) := by
          have := val_take_succ l k (by omega)
          rw [hz] at this
          exact mkHid (by rw [← hv.out, this]; simp)
        rw [hz] at hcell
        replace hz := mkHid hz
        rw [ha2]
        replace ha2 := mkHid ha2
        go_wp2_with fail
        go_round
        case rel => exact ⟨k, by omega, rfl, HV.out⟩
        case measure => simp
      · have e0 : lim (val l) = l.take (k + 1) := by
          rw [← hv.out]
          refine lim_val (okL_take hok _) (.inr ?_)
          rw [List.take_succ_eq_append_getElem (by omega), List.getLastD_eq_getLast?, List.getLast?_append]
          simpa [show k < l.length by omega] using hz
        have hn : (lim (val l)).length = k + 1 := by rw [e0, List.length_take]; omega
        have hz2 : (((l.getD k 0 : Nat) : Int) == 0) = false := by simpa using hz
        replace e0 := mkHid e0
        replace hn := mkHid hn
        replace hz := mkHid hz
        generalize l.getD k 0 = y at hcell hz2
        rw [ha2]
        replace ha2 := mkHid ha2
        go_wp2_with fail
        go_ret
        exact ⟨by rw [hn.out, ha2.out]; rfl, rfl⟩
set_option maxHeartbeats 800000 in
theorem rsigned_c (neg : Bool) (s : Value) (l : List Nat) (w : World) (hok : OkL l) (hlen : l.length ≤ 4294967296) (h : MagR w s l) :
    Calls Tryz.prog 214 #[.bool neg, s] w fun e w' => ∃ v, e = .returned v ∧ IntR w' v (sg neg (val l)) ∧ Ext w w' := by
  obtain ⟨a, c, rfl, hcap, hrow⟩ := h
  replace hrow := mkHid hrow
  have HT := fun w' (e : Row w' a (limV l)) => rtrim_c a l c w' hok hlen hcap e
  by_cases h0 : val l = 0
  · rw [h0, lim_zero] at HT
    have hr : ∀ w' : World, IntR w' (.agg #[.bool false, .slice none 0 0]) (sg neg (val l)) := fun w' =>
      ⟨.slice none 0 0, by rw [sg_neg, h0]; simp, by rw [sg_natAbs, h0, lim_zero]; exact magR_nil _⟩
    replace HT := mkHid HT
    clear h0
    go_enter Tryz.func214, Tryz.ntmps214
    go_wp2_with fail
    refine (HT.out _ (hrow.out.ext ((Ext.refl _).al _))).mono ?_
    rintro e w' ⟨rfl, rfl⟩
    go_wp2_with fail
    exact bodyPost_ret (v := .agg #[.bool false, .slice none 0 0]) (by simp [results, Tryz.results214, go_sem]) rfl ⟨_, rfl, hr _, (Ext.refl _).al _⟩
  · have hne : (((lim (val l)).length : Int) == 0) = false := by
      rw [lim_pos h0]
      simp
      omega
    have hr : ∀ w' : World, Ext w w' → IntR w' (.agg #[.bool neg, .slice a (lim (val l)).length c]) (sg neg (val l)) := fun w' e =>
      ⟨.slice a (lim (val l)).length c, by rw [sg_neg]; simp [h0], by rw [sg_natAbs]; exact MagR.ext ⟨_, _, rfl, Nat.le_trans (lim_length_val hok) hcap, hrow.out.lim hok⟩ e⟩
    replace HT := mkHid HT
    clear h0
    go_enter Tryz.func214, Tryz.ntmps214
    go_wp2_with fail
    refine (HT.out _ (hrow.out.ext ((Ext.refl _).al _))).mono ?_
    rintro e w' ⟨rfl, rfl⟩
    go_wp2_with fail
    exact bodyPost_ret (v := .agg #[.bool neg, .slice a (lim (val l)).length c]) (by simp [results, Tryz.results214, go_sem]) rfl ⟨_, rfl, hr _ ((Ext.refl _).al _), (Ext.refl _).al _⟩

theorem sgn_lt {m n : Nat} (h : m < n) : ((m : Int) - n).sign = -1 := Int.sign_eq_neg_one_of_neg (by omega)
theorem sgn_gt {m n : Nat} (h : n < m) : ((m : Int) - n).sign = 1 := Int.sign_eq_one_of_pos (by omega)
theorem sgn_eq {m n : Nat} (h : m = n) : ((m : Int) - n).sign = 0 := by subst h; simp
set_option maxHeartbeats 1600000 in
theorem rcmp_c (a a' : Option Addr) (c c' : Nat) (m n : Nat) (w : World) (hl : (lim m).length ≤ 4294967296) (hl' : (lim n).length ≤ 4294967296)
    (h : Row w a (limV (lim m))) (h' : Row w a' (limV (lim n))) :
    Calls Tryz.prog 250 #[.slice a (lim m).length c, .slice a' (lim n).length c'] w fun e w' => e = .returned (.int .i64 ((m : Int) - n).sign) ∧ Ext w w' := by
  obtain ⟨l, hlm⟩ : ∃ l, l = lim m := ⟨_, rfl⟩
  obtain ⟨l', hln⟩ : ∃ l', l' = lim n := ⟨_, rfl⟩
  have hok : OkL l := hlm ▸ lim_ok m
  have hok' : OkL l' := hln ▸ lim_ok n
  have hv : val l = m := by rw [hlm, val_lim]
  have hv' : val l' = n := by rw [hln, val_lim]
  rw [← hlm] at hl h ⊢
  rw [← hln] at hl' h' ⊢
  obtain ⟨R, hR⟩ : ∃ R, R = ((m : Int) - n).sign := ⟨_, rfl⟩
  have RL : m < n → R = -1 := fun h => hR ▸ sgn_lt h
  have RG : n < m → R = 1 := fun h => hR ▸ sgn_gt h
  have RE : m = n → R = 0 := fun h => hR ▸ sgn_eq h
  rw [← hR]
  clear hR
  by_cases hlen : l.length = l'.length
  · have hE : Hid (l.length = l'.length) := mkHid hlen
    obtain ⟨b, off, ha, hc⟩ := h
    obtain ⟨b', off', ha', hc'⟩ := h'
    replace ha := mkHid ha
    replace ha' := mkHid ha'
    replace hc := mkHid hc
    replace hc' := mkHid hc'
    replace hv := mkHid hv
    replace hv' := mkHid hv'
    replace RL := mkHid RL
    replace RG := mkHid RG
    replace RE := mkHid RE
    rw [← hlen]
    clear hlm hln hl' hlen
    go_enter Tryz.func250, Tryz.ntmps250
    go_wp2_with fail
    go_loopw [5] (fun i wr => ∃ k : Nat, k ≤ l.length ∧ i = .int .i64 ((k : Int) - 1) ∧ l.drop k = l'.drop k ∧ Ext w wr) (fun i _ => (intOf i + 1).toNat)
    case atStart => exact ⟨l.length, Nat.le_refl _, rfl, by rw [List.drop_length, hE.out, List.drop_length], Ext.refl _⟩
    case round =>
      obtain ⟨k, hk, rfl, hd, he⟩ := hrel
      replace hd := mkHid hd
      replace he := mkHid he
      by_cases h0 : k = 0
      · subst h0
        have e : l = l' := by simpa using hd.out
        have hr := RE.out (by rw [← hv.out, ← hv'.out, e])
        subst hr
        clear e
        go_wp2_with fail
        go_ret
        exact ⟨rfl, he.out⟩
      · obtain ⟨j, rfl⟩ : ∃ j, k = j + 1 := ⟨k - 1, by omega⟩
        have h1 := he.out.cell (hc.out j (by rw [limV_length]; omega))
        have h2 := he.out.cell (hc'.out j (by rw [limV_length]; have := hE.out; omega))
        rw [limV_getD _ _ (by omega)] at h1
        rw [limV_getD _ _ (by have := hE.out; omega)] at h2
        rw [ha.out (limV_ne (show j < l.length by omega)), ha'.out (limV_ne (show j < l'.length by have := hE.out; omega))]
        have hx1 : ((j + 1 : Nat) : Int) - 1 = (j : Int) := by omega
        rw [hx1]
        have d1 : l.drop j = l.getD j 0 :: l.drop (j + 1) := by
          rw [List.drop_eq_getElem_cons (show j < l.length by omega)]; simp [show j < l.length by omega]
        have d2 : l'.drop j = l'.getD j 0 :: l'.drop (j + 1) := by
          have := hE.out
          rw [List.drop_eq_getElem_cons (show j < l'.length by omega)]; simp [show j < l'.length by omega]
        have hlt : (l.getD j 0 < l'.getD j 0 → val l < val l') ∧ (l'.getD j 0 < l.getD j 0 → val l' < val l) :=
          ⟨val_lt_of hok j (by omega) hE.out hd.out, val_lt_of hok' j (by have := hE.out; omega) hE.out.symm hd.out.symm⟩
        replace hlt := mkHid hlt
        clear hx1
        rcases Nat.lt_trichotomy (l.getD j 0) (l'.getD j 0) with hy | hy | hy
        · have hr := RL.out (by rw [← hv.out, ← hv'.out]; exact hlt.out.1 hy)
          subst hr
          have hy2 : (((l.getD j 0 : Nat) : Int)) < ((l'.getD j 0 : Nat) : Int) := by omega
          clear d1 d2
          replace hy := mkHid hy
          generalize l.getD j 0 = y at h1 hy2
          generalize l'.getD j 0 = y' at h2 hy2
          go_wp2_with fail
          go_quiet (fail)
          go_wp2_with fail
          go_ret
          exact ⟨rfl, he.out.drN _⟩
        · have hdn : Hid (l.drop j = l'.drop j) := mkHid (by rw [d1, d2, hy, hd.out])
          rw [← hy] at h2
          clear d1 d2
          replace hy := mkHid hy
          generalize l.getD j 0 = y at h1 h2
          go_wp2_with fail
          go_quiet (fail)
          go_wp2_with fail
          go_quiet (fail)
          go_wp2_with fail
          go_roundw
          case rel => exact ⟨j, by omega, by go_num, hdn.out, he.out.drN _⟩
          case measure => simp [intOf] <;> omega
        · have hr := RG.out (by rw [← hv.out, ← hv'.out]; exact hlt.out.2 hy)
          subst hr
          have hy2 : ¬ ((((l.getD j 0 : Nat) : Int)) < ((l'.getD j 0 : Nat) : Int)) := by omega
          have hy3 : (((l'.getD j 0 : Nat) : Int)) < ((l.getD j 0 : Nat) : Int) := by omega
          clear d1 d2
          replace hy := mkHid hy
          generalize l.getD j 0 = y at h1 hy2 hy3
          generalize l'.getD j 0 = y' at h2 hy2 hy3
          go_wp2_with fail
          go_quiet (fail)
          go_wp2_with fail
          go_quiet (fail)
          go_wp2_with fail
          go_ret
          exact ⟨rfl, (he.out.drN _).drN _⟩
  · have hr : (l.length < l'.length → R = -1) ∧ (l'.length < l.length → R = 1) := by
      subst hlm
      subst hln
      exact ⟨fun h => RL (lt_of_lim_length h), fun h => RG (lt_of_lim_length h)⟩
    have hne : (((l.length : Nat) : Int) != ((l'.length : Nat) : Int)) = true := ne_cast hlen
    replace hr := mkHid hr
    clear RL RG RE hlm hln hok hok' hv hv' h h'
    by_cases hlt : l.length < l'.length
    · have hr1 := hr.out.1 hlt
      subst hr1
      replace hlen := mkHid hlen
      go_enter Tryz.func250, Tryz.ntmps250
      go_wp2_with fail
      go_ret
      exact ⟨rfl, Ext.refl _⟩
    · have hr1 := hr.out.2 (by omega)
      subst hr1
      replace hlen := mkHid hlen
      go_enter Tryz.func250, Tryz.ntmps250
      go_wp2_with fail
      go_ret
      exact ⟨rfl, Ext.refl _⟩
end Go.Proofs.YtplhndmncjoghaaGreatDoor
namespace Go.Proofs.YtplhndmncjoghaaGreatDoor
set_option maxRecDepth 100000
open Go Go.RowKit Go.Proofs
theorem getD_out {l : List Nat} {k : Nat} (h : ¬ k < l.length) : l.getD k 0 = 0 := by
  simp [List.getD_eq_getElem?_getD, List.getElem?_eq_none (show l.length ≤ k by omega)]
theorem val_take_any (l : List Nat) (k : Nat) : val (l.take (k + 1)) = val (l.take k) + 4294967296 ^ k * l.getD k 0 := by
  by_cases h : k < l.length
  · exact val_take_succ l k h
  · rw [getD_out h, List.take_of_length_le (by omega), List.take_of_length_le (by omega)]; simp
theorem val_snoc (q : List Nat) (x : Nat) : val (q ++ [x]) = val q + 4294967296 ^ q.length * x := by
  rw [val_append]; simp [val]
/-- What is kept while adding, limb behind limb. -/
def AddI (l m q : List Nat) (k c : Nat) : Prop := q.length = k ∧ OkL q ∧ c ≤ 1 ∧ val q + 4294967296 ^ k * c = val (l.take k) + val (m.take k) ∧ k ≤ max l.length m.length + 1 ∧ (k ≤ max l.length m.length ∨ c = 0)
theorem addI_start (l m : List Nat) : AddI l m [] 0 0 := ⟨rfl, (fun x h => by cases h), by omega, by simp [val], by omega, by omega⟩
theorem addI_step {l m q : List Nat} {k c : Nat} (h : AddI l m q k c) (hl : OkL l) (hm : OkL m) (hg : k < l.length ∨ k < m.length ∨ 0 < c) :
    AddI l m (q ++ [(c + l.getD k 0 + m.getD k 0) % 4294967296]) (k + 1) ((c + l.getD k 0 + m.getD k 0) / 4294967296) := by
  obtain ⟨h1, h2, h3, h4, h5, h6⟩ := h
  have hx := okL_get hl k
  have hy := okL_get hm k
  refine ⟨by simp [h1], okL_append.2 ⟨h2, fun x hx => by simp at hx; omega⟩, by omega, ?_, by omega, ?_⟩
  · rw [val_snoc, h1, val_take_any l k, val_take_any m k, Nat.pow_succ]
    have e : c + l.getD k 0 + m.getD k 0 = (c + l.getD k 0 + m.getD k 0) % 4294967296 + 4294967296 * ((c + l.getD k 0 + m.getD k 0) / 4294967296) := (Nat.mod_add_div _ _).symm
    generalize (c + l.getD k 0 + m.getD k 0) % 4294967296 = r at *
    generalize (c + l.getD k 0 + m.getD k 0) / 4294967296 = s at *
    generalize 4294967296 ^ k = p at *
    have e2 : p * (c + l.getD k 0 + m.getD k 0) = p * (r + 4294967296 * s) := by rw [e]
    simp only [Nat.mul_add] at e2
    rw [← Nat.mul_assoc] at e2
    omega
  · by_cases hk : k < max l.length m.length
    · exact .inl (by omega)
    · right
      rw [getD_out (show ¬ k < l.length by omega), getD_out (show ¬ k < m.length by omega)]
      omega
theorem addI_end {l m q : List Nat} {k c : Nat} (h : AddI l m q k c) (h1 : ¬ k < l.length) (h2 : ¬ k < m.length) (h3 : c = 0) : OkL q ∧ q.length ≤ max l.length m.length + 1 ∧ val q = val l + val m := by
  obtain ⟨g1, g2, g3, g4, g5, g6⟩ := h
  subst h3
  rw [List.take_of_length_le (by omega), List.take_of_length_le (by omega)] at g4
  exact ⟨g2, by omega, by omega⟩
theorem magO_snoc {w : World} {base : Nat} {v : Value} {q : List Nat} {d : Int} {x : Nat} (h : w.ownsRow base 137 1 v (q.length + 1) (limV q ++ [.int .u32 d])) (hd : d = (x : Int)) : MagO w base v (q ++ [x]) := by
  unfold MagO limV at *
  rw [hd] at h
  simpa using h
theorem cells_new {w : World} {T : Nat} {u : Value} : ∀ j x, [u][j]? = some x → (w.alloc (.cells #[u] T)).cell? ((⟨w.heap.size, 0, none⟩ : Addr).add j) = some x := by
  intro j x hx
  cases j with
  | zero =>
    simp at hx
    subst hx
    have : (⟨w.heap.size, 0, none⟩ : Addr).add 0 = ⟨w.heap.size, 0, none⟩ := by simp [Addr.add]
    rw [this]
    unfold World.cell?
    rw [heap_alloc_new]
    rfl
  | succ j => simp at hx
theorem one_u32 {d : Int} : ∀ u ∈ [Value.int .u32 d], u.oneCell' = true := by
  intro u hu
  simp at hu
  subst hu
  rfl
theorem Ext.app {w wr w1 : World} {o : Obj} {E sz n : Nat} {v : Value} {xs : List Value} (e : Ext w wr) (h : wr.ownsRow w.heap.size E sz v n xs) (hg : (wr.alloc o).grownBy w1 v.ownBlock) : Ext w w1 :=
  (e.al o).gr hg fun k hk => (World.ownsRow.lt h k hk).1
set_option maxRecDepth 100000 in
set_option maxHeartbeats 3200000 in
theorem radd_c (a a' : Option Addr) (c c' : Nat) (l m : List Nat) (w : World) (hl : l.length ≤ 2147483648) (hm : m.length ≤ 2147483648) (okl : OkL l) (okm : OkL m)
    (h : Row w a (limV l)) (h' : Row w a' (limV m)) :
    Calls Tryz.prog 255 #[.slice a l.length c, .slice a' m.length c'] w fun e w' => ∃ v q, e = .returned v ∧ MagO w' w.heap.size v q ∧ OkL q ∧ q.length ≤ max l.length m.length + 1 ∧ val q = val l + val m ∧ Ext w w' := by
  obtain ⟨b, off, ha, hc⟩ := h
  obtain ⟨b', off', ha', hc'⟩ := h'
  replace ha := mkHid ha
  replace hc := mkHid hc
  replace ha' := mkHid ha'
  replace hc' := mkHid hc'
  have hst := mkHid (addI_start l m)
  obtain ⟨i0, hi, hz0, hz1, hz2⟩ := info_parts u32_info
  go_enter Tryz.func255, Tryz.ntmps255
  go_wp2_with fail
  go_loopw [5, 6, 7, 8] (fun v s i _ wr => ∃ k cr q, i = .int .i64 (k : Nat) ∧ s = .int .u64 (cr : Nat) ∧ MagO wr w.heap.size v q ∧ AddI l m q k cr ∧ Ext w wr) (fun _ _ i _ _ => (max l.length m.length + 2) - (intOf i).toNat)
  case atStart => exact ⟨0, 0, [], rfl, rfl, magO_nil _ _, hst.out, Ext.refl _⟩
  case round =>
    obtain ⟨k, cr, q, rfl, rfl, ho, had, he⟩ := hrel
    have hk := had.2.2.2.2.1
    have hcr := had.2.2.1
    have hql : q.length ≤ 2147483650 := by have := had.1; omega
    have ho0 := mkHid ho
    by_cases hkl : k < l.length
    · have h1 := he.cell (row_at hc.out hkl)
      have hA := ha.out (limV_ne hkl)
      have hxl := okL_get okl k
      by_cases hkm : k < m.length
      · have h2 := he.cell (row_at hc'.out hkm)
        have hA' := ha'.out (limV_ne hkm)
        have hyl := okL_get okm k
        have hnext := mkHid (addI_step had okl okm (.inl hkl))
        rw [hA, hA']
        replace hA := mkHid hA
        replace hA' := mkHid hA'
        replace had := mkHid had
        generalize l.getD k 0 = x at *
        generalize m.getD k 0 = y at *
        go_wp2_with (at_builtin; refine wpList_append_own _ rfl (.tmp 48) (.tmp 52) 23 rfl w.heap.size 137 i0 (.int .u32 0) 1 4 u32_under hi hz0 hz1 hz2 rfl (by decide) _ q.length (limV q) rfl (World.ownsRow.alloc ho _) ⟨wr.heap.size, 0, none⟩ 1 1 [.int .u32 (((cr : Int) + x + y) % 4294967296)] rfl rfl cells_new one_u32 ?c3 ?c4 ?c5 ?_)
        case c3 => unfold maxLen; have := hql; omega
        case c4 => have := hql; omega
        case c5 => have := he.size; simp; omega
        intro v' w1 hown hgrow _
        replace ho := mkHid (magO_snoc hown (show _ = (((cr + x + y) % 4294967296 : Nat) : Int) by simp))
        replace he := mkHid (he.app ho0.out hgrow)
        clear hown hgrow
        go_wp2_with fail
        go_roundw
        case rel => exact ⟨k + 1, (cr + x + y) / 4294967296, _, by go_num, by simp, ho.out, hnext.out, he.out⟩
        case measure => simp [intOf] <;> omega
      · have hnext := addI_step had okl okm (.inl hkl)
        rw [getD_out hkm, Nat.add_zero] at hnext
        replace hnext := mkHid hnext
        rw [hA]
        replace hA := mkHid hA
        replace had := mkHid had
        generalize l.getD k 0 = x at *
        go_wp2_with (at_builtin; refine wpList_append_own _ rfl (.tmp 48) (.tmp 52) 23 rfl w.heap.size 137 i0 (.int .u32 0) 1 4 u32_under hi hz0 hz1 hz2 rfl (by decide) _ q.length (limV q) rfl (World.ownsRow.alloc ho _) ⟨wr.heap.size, 0, none⟩ 1 1 [.int .u32 (((cr : Int) + x) % 4294967296)] rfl rfl cells_new one_u32 ?c3 ?c4 ?c5 ?_)
        case c3 => unfold maxLen; have := hql; omega
        case c4 => have := hql; omega
        case c5 => have := he.size; simp; omega
        intro v' w1 hown hgrow _
        replace ho := mkHid (magO_snoc hown (show _ = (((cr + x) % 4294967296 : Nat) : Int) by simp))
        replace he := mkHid (he.app ho0.out hgrow)
        clear hown hgrow
        go_wp2_with fail
        go_roundw
        case rel => exact ⟨k + 1, (cr + x) / 4294967296, _, by go_num, by simp, ho.out, hnext.out, he.out⟩
        case measure => simp [intOf] <;> omega
    · by_cases hkm : k < m.length
      · have h2 := he.cell (row_at hc'.out hkm)
        have hA' := ha'.out (limV_ne hkm)
        have hyl := okL_get okm k
        have hnext := addI_step had okl okm (.inr (.inl hkm))
        rw [getD_out hkl, Nat.add_zero] at hnext
        replace hnext := mkHid hnext
        rw [hA']
        replace hA' := mkHid hA'
        replace had := mkHid had
        generalize m.getD k 0 = y at *
        go_wp2_with (at_builtin; refine wpList_append_own _ rfl (.tmp 48) (.tmp 52) 23 rfl w.heap.size 137 i0 (.int .u32 0) 1 4 u32_under hi hz0 hz1 hz2 rfl (by decide) _ q.length (limV q) rfl (World.ownsRow.alloc ho _) ⟨wr.heap.size, 0, none⟩ 1 1 [.int .u32 (((cr : Int) + y) % 4294967296)] rfl rfl cells_new one_u32 ?c3 ?c4 ?c5 ?_)
        case c3 => unfold maxLen; have := hql; omega
        case c4 => have := hql; omega
        case c5 => have := he.size; simp; omega
        intro v' w1 hown hgrow _
        replace ho := mkHid (magO_snoc hown (show _ = (((cr + y) % 4294967296 : Nat) : Int) by simp))
        replace he := mkHid (he.app ho0.out hgrow)
        clear hown hgrow
        go_wp2_with fail
        go_roundw
        case rel => exact ⟨k + 1, (cr + y) / 4294967296, _, by go_num, by simp, ho.out, hnext.out, he.out⟩
        case measure => simp [intOf] <;> omega
      · by_cases h0 : cr = 0
        · have hend := mkHid (addI_end had hkl hkm h0)
          subst h0
          replace had := mkHid had
          replace ho := mkHid ho
          replace he := mkHid he
          go_wp2_with fail
          go_ret
          exact ⟨_, _, rfl, ho.out, hend.out.1, hend.out.2.1, hend.out.2.2, he.out⟩
        · have hnext := addI_step had okl okm (.inr (.inr (by omega)))
          rw [getD_out hkl, getD_out hkm, Nat.add_zero, Nat.add_zero] at hnext
          have hcp : 0 < cr := by omega
          have hki : k ≤ max l.length m.length := by have := had.2.2.2.2.2; omega
          replace hnext := mkHid hnext
          replace had := mkHid had
          replace h0 := mkHid h0
          go_wp2_with (at_builtin; refine wpList_append_own _ rfl (.tmp 48) (.tmp 52) 23 rfl w.heap.size 137 i0 (.int .u32 0) 1 4 u32_under hi hz0 hz1 hz2 rfl (by decide) _ q.length (limV q) rfl (World.ownsRow.alloc ho _) ⟨wr.heap.size, 0, none⟩ 1 1 [.int .u32 ((cr : Int) % 4294967296)] rfl rfl cells_new one_u32 ?c3 ?c4 ?c5 ?_)
          case c3 => unfold maxLen; have := hql; omega
          case c4 => have := hql; omega
          case c5 => have := he.size; simp; omega
          intro v' w1 hown hgrow _
          replace ho := mkHid (magO_snoc hown (show _ = ((cr % 4294967296 : Nat) : Int) by simp))
          replace he := mkHid (he.app ho0.out hgrow)
          clear hown hgrow
          go_wp2_with fail
          go_roundw
          case rel => exact ⟨k + 1, cr / 4294967296, _, by go_num, by simp, ho.out, hnext.out, he.out⟩
          case measure => simp [intOf] <;> omega
/-- What is kept while taking away, limb behind limb. -/
def SubI (l m q : List Nat) (k c : Nat) : Prop := q.length = k ∧ k ≤ l.length ∧ OkL q ∧ c ≤ 1 ∧ val q + val (m.take k) = val (l.take k) + 4294967296 ^ k * c
theorem subI_start (l m : List Nat) : SubI l m [] 0 0 := ⟨rfl, by omega, (fun x h => by cases h), by omega, by simp [val]⟩
theorem subI_step {l m q : List Nat} {k c d c' : Nat} (h : SubI l m q k c) (hk : k < l.length) (hd : d < 4294967296) (hc' : c' ≤ 1) (e : d + m.getD k 0 + c = l.getD k 0 + 4294967296 * c') :
    SubI l m (q ++ [d]) (k + 1) c' := by
  obtain ⟨h1, h2, h3, h4, h5⟩ := h
  refine ⟨by simp [h1], by omega, okL_append.2 ⟨h3, fun x hx => by simp at hx; omega⟩, hc', ?_⟩
  rw [val_snoc, h1, val_take_any l k, val_take_any m k, Nat.pow_succ]
  generalize 4294967296 ^ k = p at *
  have e2 : p * (d + m.getD k 0 + c) = p * (l.getD k 0 + 4294967296 * c') := by rw [e]
  simp only [Nat.mul_add] at e2
  rw [← Nat.mul_assoc] at e2
  omega
theorem subI_end {l m q : List Nat} {c : Nat} (h : SubI l m q l.length c) (hm : m.length ≤ l.length) (hv : val m ≤ val l) : OkL q ∧ q.length = l.length ∧ val q = val l - val m := by
  obtain ⟨h1, h2, h3, h4, h5⟩ := h
  refine ⟨h3, h1, ?_⟩
  rw [List.take_length, List.take_of_length_le hm] at h5
  have hq := val_lt h3
  rw [h1] at hq
  have : c = 0 ∨ c = 1 := by omega
  rcases this with rfl | rfl <;> simp at h5 <;> omega
set_option maxRecDepth 100000 in
set_option maxHeartbeats 3200000 in
theorem rsub_c (a a' : Option Addr) (c c' : Nat) (l m : List Nat) (w : World) (hl : l.length ≤ 2147483648) (hml : m.length ≤ l.length) (okl : OkL l) (okm : OkL m) (hv : val m ≤ val l)
    (h : Row w a (limV l)) (h' : Row w a' (limV m)) :
    Calls Tryz.prog 251 #[.slice a l.length c, .slice a' m.length c'] w fun e w' => ∃ v, e = .returned v ∧ MagO w' w.heap.size v (lim (val l - val m)) ∧ Ext w w' := by
  obtain ⟨b, off, ha, hc⟩ := h
  obtain ⟨b', off', ha', hc'⟩ := h'
  replace ha := mkHid ha
  replace hc := mkHid hc
  replace ha' := mkHid ha'
  replace hc' := mkHid hc'
  replace hv := mkHid hv
  have hst := mkHid (subI_start l m)
  obtain ⟨i0, hi, hz0, hz1, hz2⟩ := info_parts u32_info
  go_enter Tryz.func251, Tryz.ntmps251
  go_wp2_with fail
  go_loopw [5, 6, 7, 8, 9] (fun v s i _ _ wr => ∃ k cr q, i = .int .i64 (k : Nat) ∧ s = .int .u64 (cr : Nat) ∧ MagO wr w.heap.size v q ∧ SubI l m q k cr ∧ Ext w wr) (fun _ _ i _ _ _ => l.length - (intOf i).toNat)
  case atStart => exact ⟨0, 0, [], rfl, rfl, magO_nil _ _, hst.out, Ext.refl _⟩
  case round =>
    obtain ⟨k, cr, q, rfl, rfl, ho, had, he⟩ := hrel
    have hk := had.2.1
    have hcr := had.2.2.2.1
    have hql : q.length ≤ 2147483648 := by have := had.1; omega
    have ho0 := mkHid ho
    by_cases hkl : k < l.length
    · have h1 := he.cell (row_at hc.out hkl)
      have hA := ha.out (limV_ne hkl)
      have hxl := okL_get okl k
      have hyl := okL_get okm k
      obtain ⟨x, hxe⟩ : ∃ x, x = l.getD k 0 := ⟨_, rfl⟩
      obtain ⟨y, hye⟩ : ∃ y, y = m.getD k 0 := ⟨_, rfl⟩
      rw [hA]
      rw [← hxe] at h1 hxl
      rw [← hye] at hyl
      replace hxe := mkHid hxe
      replace hA := mkHid hA
      by_cases hkm : k < m.length
      · have h2 := he.cell (row_at hc'.out hkm)
        have hA' := ha'.out (limV_ne hkm)
        rw [← hye] at h2
        rw [hA']
        replace hA' := mkHid hA'
        replace hye := mkHid hye
        by_cases hlt : x < cr + y
        · have hlt2 : (x : Int) < ((cr : Int) + y) := by omega
          have hb1 : ((cr : Int) + y) ≤ x + 4294967296 := by omega
          have hnext := mkHid (subI_step (d := x + 4294967296 - (cr + y)) (c' := 1) had hkl (by omega) (by omega) (by rw [← hxe.out, ← hye.out]; omega))
          have hdd := mkHid (show (x : Int) + 4294967296 - (((cr : Int) + y)) = ((x + 4294967296 - (cr + y) : Nat) : Int) by omega)
          replace had := mkHid had
          replace hlt := mkHid hlt
          go_wp2_with (at_builtin; refine wpList_append_own _ rfl (.tmp 38) (.tmp 43) 23 rfl w.heap.size 137 i0 (.int .u32 0) 1 4 u32_under hi hz0 hz1 hz2 rfl (by decide) _ q.length (limV q) rfl (World.ownsRow.alloc ho _) ⟨wr.heap.size, 0, none⟩ 1 1 [.int .u32 ((x : Int) + 4294967296 - (((cr : Int) + y)))] rfl rfl cells_new one_u32 ?c3 ?c4 ?c5 ?_)
          case c3 => unfold maxLen; have := hql; omega
          case c4 => have := hql; omega
          case c5 => have := he.size; simp; omega
          intro v' w1 hown hgrow _
          replace ho := mkHid (magO_snoc hown (hdd.out))
          replace he := mkHid (he.app ho0.out hgrow)
          clear hown hgrow
          go_wp2_with fail
          go_roundw
          case rel => exact ⟨k + 1, 1, _, by go_num, by simp, ho.out, hnext.out, he.out⟩
          case measure => simp [intOf] <;> omega
        · have hlt2 : ¬ (x : Int) < ((cr : Int) + y) := by omega
          have hnext := mkHid (subI_step (d := x - (cr + y)) (c' := 0) had hkl (by omega) (by omega) (by rw [← hxe.out, ← hye.out]; omega))
          have hdd := mkHid (show (x : Int) - (((cr : Int) + y)) = ((x - (cr + y) : Nat) : Int) by omega)
          replace had := mkHid had
          replace hlt := mkHid hlt
          go_wp2_with (at_builtin; refine wpList_append_own _ rfl (.tmp 38) (.tmp 43) 23 rfl w.heap.size 137 i0 (.int .u32 0) 1 4 u32_under hi hz0 hz1 hz2 rfl (by decide) _ q.length (limV q) rfl (World.ownsRow.alloc ho _) ⟨wr.heap.size, 0, none⟩ 1 1 [.int .u32 ((x : Int) - (((cr : Int) + y)))] rfl rfl cells_new one_u32 ?c3 ?c4 ?c5 ?_)
          case c3 => unfold maxLen; have := hql; omega
          case c4 => have := hql; omega
          case c5 => have := he.size; simp; omega
          intro v' w1 hown hgrow _
          replace ho := mkHid (magO_snoc hown (hdd.out))
          replace he := mkHid (he.app ho0.out hgrow)
          clear hown hgrow
          go_wp2_with fail
          go_roundw
          case rel => exact ⟨k + 1, 0, _, by go_num, by simp, ho.out, hnext.out, he.out⟩
          case measure => simp [intOf] <;> omega
      · have hy0 : y = 0 := by rw [hye]; exact getD_out hkm
        replace hye := mkHid hye
        replace hy0 := mkHid hy0
        have := hy0.out
        subst this
        by_cases hlt : x < cr
        · have hlt2 : (x : Int) < (cr : Int) := by omega
          have hb1 : (cr : Int) ≤ x + 4294967296 := by omega
          have hnext := mkHid (subI_step (d := x + 4294967296 - (cr)) (c' := 1) had hkl (by omega) (by omega) (by rw [← hxe.out, ← hye.out]; omega))
          have hdd := mkHid (show (x : Int) + 4294967296 - ((cr : Int)) = ((x + 4294967296 - (cr) : Nat) : Int) by omega)
          replace had := mkHid had
          replace hlt := mkHid hlt
          go_wp2_with (at_builtin; refine wpList_append_own _ rfl (.tmp 38) (.tmp 43) 23 rfl w.heap.size 137 i0 (.int .u32 0) 1 4 u32_under hi hz0 hz1 hz2 rfl (by decide) _ q.length (limV q) rfl (World.ownsRow.alloc ho _) ⟨wr.heap.size, 0, none⟩ 1 1 [.int .u32 ((x : Int) + 4294967296 - ((cr : Int)))] rfl rfl cells_new one_u32 ?c3 ?c4 ?c5 ?_)
          case c3 => unfold maxLen; have := hql; omega
          case c4 => have := hql; omega
          case c5 => have := he.size; simp; omega
          intro v' w1 hown hgrow _
          replace ho := mkHid (magO_snoc hown (hdd.out))
          replace he := mkHid (he.app ho0.out hgrow)
          clear hown hgrow
          go_wp2_with fail
          go_roundw
          case rel => exact ⟨k + 1, 1, _, by go_num, by simp, ho.out, hnext.out, he.out⟩
          case measure => simp [intOf] <;> omega
        · have hlt2 : ¬ (x : Int) < (cr : Int) := by omega
          have hnext := mkHid (subI_step (d := x - (cr)) (c' := 0) had hkl (by omega) (by omega) (by rw [← hxe.out, ← hye.out]; omega))
          have hdd := mkHid (show (x : Int) - ((cr : Int)) = ((x - (cr) : Nat) : Int) by omega)
          replace had := mkHid had
          replace hlt := mkHid hlt
          go_wp2_with (at_builtin; refine wpList_append_own _ rfl (.tmp 38) (.tmp 43) 23 rfl w.heap.size 137 i0 (.int .u32 0) 1 4 u32_under hi hz0 hz1 hz2 rfl (by decide) _ q.length (limV q) rfl (World.ownsRow.alloc ho _) ⟨wr.heap.size, 0, none⟩ 1 1 [.int .u32 ((x : Int) - ((cr : Int)))] rfl rfl cells_new one_u32 ?c3 ?c4 ?c5 ?_)
          case c3 => unfold maxLen; have := hql; omega
          case c4 => have := hql; omega
          case c5 => have := he.size; simp; omega
          intro v' w1 hown hgrow _
          replace ho := mkHid (magO_snoc hown (hdd.out))
          replace he := mkHid (he.app ho0.out hgrow)
          clear hown hgrow
          go_wp2_with fail
          go_roundw
          case rel => exact ⟨k + 1, 0, _, by go_num, by simp, ho.out, hnext.out, he.out⟩
          case measure => simp [intOf] <;> omega
    · obtain rfl : k = l.length := by omega
      have hend := subI_end had hml hv.out
      obtain ⟨aa, cc, rfl, hle, hrow⟩ := ho.r
      have hres := ho.lim hend.1
      have hcall := fun w' (e : Row w' aa (limV q)) => rtrim_c aa q cc w' hend.1 (by omega) hle e
      rw [hend.2.2] at hres hcall
      rw [hend.2.1] at hcall ⊢
      replace hcall := mkHid hcall
      replace hres := mkHid hres
      replace hrow := mkHid hrow
      replace had := mkHid had
      replace hend := mkHid hend
      replace he := mkHid he
      clear ho ho0
      go_wp2_with fail
      refine (hcall.out _ hrow.out).mono ?_
      rintro e w' ⟨rfl, rfl⟩
      go_wp2_with fail
      go_ret
      exact ⟨_, rfl, hres.out, he.out⟩
end Go.Proofs.YtplhndmncjoghaaGreatDoor
namespace Go.Proofs.YtplhndmncjoghaaGreatDoor
set_option maxRecDepth 100000
open Go Go.RowKit Go.Proofs
/-- A block that holds these limbs. -/
def Blk (w : World) (g : Nat) (q : List Nat) : Prop := w.heap[g]? = some (.cells (limV q).toArray 137 (0, 0))
theorem Blk.cell {w : World} {g : Nat} {q : List Nat} (h : Blk w g q) {k : Nat} (hk : k < q.length) : w.cell? ⟨g, k, none⟩ = some (.int .u32 ((q.getD k 0 : Nat) : Int)) := by
  unfold Blk at h
  simp [World.cell?, h, limV, hk]
theorem Blk.frozen {w : World} {g : Nat} {q : List Nat} (h : Blk w g q) (k : Nat) : w.frozen? ⟨g, k, none⟩ = false := by
  unfold Blk at h
  simp [World.frozen?, h]
theorem Blk.set {w : World} {g : Nat} {q : List Nat} (h : Blk w g q) (k v : Nat) : Blk (w.setCell ⟨g, k, none⟩ (.int .u32 (v : Int))) g (q.set k v) := by
  unfold Blk at *
  have := limV_arr_set q k v
  unfold World.setCell
  show (w.heap.modify g _)[g]? = _
  rw [Array.getElem?_modify, if_pos rfl, h, ← this]
  rfl
theorem Blk.dr {w : World} {g : Nat} {q : List Nat} (h : Blk w g q) (n : Nat) : Blk (w.drewN n) g q := h
theorem Blk.ext {w w' : World} {g : Nat} {q : List Nat} (h : Blk w g q) (e : Ext w w') : Blk w' g q := e.blk h
theorem blk_new (w : World) (q : List Nat) : Blk (w.alloc (.cells (limV q).toArray 137)) w.heap.size q := heap_alloc_new w _
theorem Blk.own {w : World} {g : Nat} {q : List Nat} (h : Blk w g q) (hl : q.length ≤ 4294967296) : MagO w g (.slice (some ⟨g, 0, none⟩) q.length q.length) q := by
  refine ⟨by simp [limV], .inr ⟨g, q.length, _, rfl, Nat.le_refl _, h, Nat.le_refl _, by unfold maxLen; omega, by simp [limV], ?_⟩⟩
  rw [Nat.mul_one, List.take_of_length_le (by simp [limV])]
set_option maxRecDepth 100000 in
set_option maxHeartbeats 3200000 in
theorem rmul_c (a a' : Option Addr) (c c' : Nat) (l m : List Nat) (w : World) (hl : l.length ≤ 1073741824) (hm : m.length ≤ 1073741824) (okl : OkL l) (okm : OkL m)
    (h : Row w a (limV l)) (h' : Row w a' (limV m)) :
    Calls Tryz.prog 217 #[.slice a l.length c, .slice a' m.length c'] w fun e w' => ∃ v, e = .returned v ∧ MagO w' w.heap.size v (lim (val l * val m)) ∧ Ext w w' := by
  obtain ⟨b, off, ha, hc⟩ := h
  obtain ⟨b', off', ha', hc'⟩ := h'
  replace ha := mkHid ha
  replace hc := mkHid hc
  replace ha' := mkHid ha'
  replace hc' := mkHid hc'
  have hmk := fun w => make32 (l.length + m.length) w (by omega)
  rw [show (((l.length + m.length : Nat)) : Int) = (l.length : Int) + m.length by omega] at hmk
  have hst := mkHid (mulO_start l m)
  go_enter Tryz.func217, Tryz.ntmps217
  go_wp2_with fail
  go_loopw [6, 7, 8, 9] (fun i _ _ _ wr => ∃ k q, k ≤ l.length ∧ i = .int .i64 (k : Nat) ∧ Blk wr w.heap.size q ∧ MulO l m q k ∧ Ext w wr) (fun i _ _ _ _ => l.length - (intOf i).toNat)
  case atStart => exact ⟨0, _, Nat.zero_le _, rfl, blk_new _ _, hst.out, (Ext.refl w).al _⟩
  case round =>
    obtain ⟨k, q, hk, rfl, hB, hmo, he⟩ := hrel
    obtain ⟨wo, rfl⟩ : ∃ wo : World, wo = wr := ⟨_, rfl⟩
    replace hmo := mkHid hmo
    replace hB := mkHid hB
    replace he := mkHid he
    by_cases hkl : k < l.length
    · have hA := ha.out (limV_ne hkl)
      rw [hA]
      replace hA := mkHid hA
      have hu := okL_get okl k
      obtain ⟨u, hu'⟩ : ∃ u, u = l.getD k 0 := ⟨_, rfl⟩
      rw [← hu'] at hu
      have hi0 := mkHid (mulI_start hmo.out)
      replace hu' := mkHid hu'
      have hkl' := mkHid hkl
      go_wp2_with fail
      go_loopw [7, 8, 9] (fun s i _ wr => ∃ kk cr q, kk ≤ m.length ∧ i = .int .i64 (kk : Nat) ∧ s = .int .u64 (cr : Nat) ∧ Blk wr w.heap.size q ∧ MulI l m q k kk cr ∧ Ext w wr) (fun _ i _ _ => m.length - (intOf i).toNat)
      case atStart => exact ⟨0, 0, q, Nat.zero_le _, rfl, rfl, hB.out, hi0.out, he.out⟩
      case round =>
        obtain ⟨kk, cr, q, hkk, rfl, rfl, hB, hmi, he⟩ := hrel
        have hq1 := hmi.1
        have hcr := hmi.2.2.1
        by_cases hkk2 : kk < m.length
        · have h1 := he.cell (row_at hc.out hkl'.out)
          have h2 := he.cell (row_at hc'.out hkk2)
          rw [← hu'.out] at h1
          have hA' := ha'.out (limV_ne hkk2)
          have hv := okL_get okm kk
          have hold := hB.cell (k := k + kk) (by omega)
          have hfr := hB.frozen (k + kk)
          have ho := okL_get hmi.2.1 (k + kk)
          have hnext := mulI_step hmi hkl'.out hkk2 okl okm
          rw [← hu'.out] at hnext
          have hb := mul_bounds hu hv ho hcr
          obtain ⟨R, hR⟩ : ∃ R, R = (cr + (u * m.getD kk 0 + q.getD (k + kk) 0)) := ⟨_, rfl⟩
          rw [← hR] at hnext
          have hset := hB.set (k + kk) (R % 4294967296)
          have hes := he.st (p := ⟨w.heap.size, k + kk, none⟩) (Nat.le_refl _) (.int .u32 ((R % 4294967296 : Nat) : Int))
          have hRD : ((R % 4294967296 : Nat) : Int) = ((u : Int) * (m.getD kk 0 : Nat) + (q.getD (k + kk) 0 : Nat) + cr) % 4294967296 := by
            rw [hR]; simp only [Int.natCast_emod, Int.natCast_add, Int.natCast_mul]; congr 1; omega
          have hRQ : ((R / 4294967296 : Nat) : Int) = ((u : Int) * (m.getD kk 0 : Nat) + (q.getD (k + kk) 0 : Nat) + cr) / 4294967296 := by
            rw [hR]; simp only [Int.natCast_ediv, Int.natCast_add, Int.natCast_mul]; congr 1; omega
          rw [hRD] at hset hes
          replace hRD := mkHid hRD
          replace hRQ := mkHid hRQ
          rw [hA']
          replace hA' := mkHid hA'
          replace hnext := mkHid hnext
          replace hmi := mkHid hmi
          replace hset := mkHid hset
          replace hes := mkHid hes
          replace he := mkHid he
          replace hB := mkHid hB
          generalize m.getD kk 0 = v at *
          generalize q.getD (k + kk) 0 = o at *
          replace hR := mkHid hR
          go_wp2_with fail
          go_quiet (fail)
          go_wp2_with fail
          go_roundw
          case rel => exact ⟨kk + 1, R / 4294967296, _, by omega, by go_num, by rw [hRQ.out], hset.out, hnext.out, hes.out.drN _⟩
          case measure => simp [intOf] <;> omega
        · obtain rfl : kk = m.length := by omega
          have hend := mkHid (mulI_end hmi hkl'.out)
          have hold := hB.cell (k := k + m.length) (by omega)
          have hfr := hB.frozen (k + m.length)
          have hset := mkHid (hB.set (k + m.length) cr)
          have hes := mkHid (he.st (p := ⟨w.heap.size, k + m.length, none⟩) (Nat.le_refl _) (.int .u32 (cr : Int)))
          replace hmi := mkHid hmi
          replace he := mkHid he
          replace hB := mkHid hB
          go_wp2_with fail
          go_roundw
          case rel => exact ⟨k + 1, _, by omega, by go_num, hset.out, hend.out, hes.out⟩
          case measure => simp [intOf] <;> omega
    · obtain rfl : k = l.length := by omega
      obtain ⟨x1, x2, x3⟩ := hmo.out
      rw [List.take_length, List.take_of_length_le (by omega)] at x3
      have hown := hB.out.own (by omega)
      obtain ⟨aa, cc, he0, hle, hrow⟩ := hown.r
      simp only [Value.slice.injEq] at he0
      obtain ⟨rfl, -, rfl⟩ := he0
      have hres := hown.lim x2
      have hcall := fun w' (e : Row w' (some ⟨w.heap.size, 0, none⟩) (limV q)) => rtrim_c (some ⟨w.heap.size, 0, none⟩) q q.length w' x2 (by omega) hle e
      rw [x3] at hres hcall
      rw [x1] at hcall hres
      replace hcall := mkHid hcall
      replace hres := mkHid hres
      replace hrow := mkHid hrow
      replace x1 := mkHid x1
      replace x3 := mkHid x3
      clear hown
      go_wp2_with fail
      refine (hcall.out _ hrow.out).mono ?_
      rintro e w' ⟨rfl, rfl⟩
      go_wp2_with fail
      go_ret
      exact ⟨_, rfl, hres.out, he.out⟩
theorem row_one (w : World) (T : Nat) (n : Nat) : Row (w.alloc (.cells #[.int .u32 (n : Int)] T)) (some ⟨w.heap.size, 0, none⟩) (limV [n]) := by
  refine ⟨w.heap.size, 0, fun _ => rfl, fun j hj => ?_⟩
  have : j = 0 := by simp [limV] at hj; omega
  subst this
  unfold World.cell?
  simp only [Nat.zero_add, heap_alloc_new]
  rfl
theorem val_one (n : Nat) : val [n] = n := by simp [val]
set_option maxRecDepth 100000 in
set_option maxHeartbeats 1600000 in
theorem rtimes_c (a : Option Addr) (c : Nat) (l : List Nat) (n : Nat) (w : World) (hl : l.length ≤ 1073741824) (okl : OkL l) (hn : n < 4294967296) (h : Row w a (limV l)) :
    Calls Tryz.prog 275 #[.slice a l.length c, .int .u32 n] w fun e w' => ∃ v, e = .returned v ∧ MagO w' w.heap.size v (lim (val l * n)) ∧ Ext w w' := by
  have okn : OkL [n] := fun x hx => by simp at hx; omega
  have hr := row_one w 137 n
  have htr := rtrim_c (some ⟨w.heap.size, 0, none⟩) [n] 1 _ okn (by simp) (by simp) hr
  have hle := lim_length_val okn
  rw [val_one] at htr hle
  simp only [List.length_singleton] at hle
  have hr2 := hr.lim okn
  rw [val_one] at hr2
  have hml := rmul_c a (some ⟨w.heap.size, 0, none⟩) c 1 l (lim n) _ hl (by omega) okl (lim_ok n) (h.ext ((Ext.refl w).al _)) hr2
  rw [val_lim] at hml
  replace htr := mkHid htr
  replace hml := mkHid hml
  clear hr hr2 okn
  go_enter Tryz.func275, Tryz.ntmps275
  go_wp2_with fail
  refine htr.out.mono ?_
  rintro e w' ⟨rfl, rfl⟩
  go_wp2_with fail
  refine hml.out.mono ?_
  rintro e w' ⟨v, rfl, h1, h2⟩
  replace h1 := mkHid (h1.mono (show w.heap.size ≤ _ by simp))
  replace h2 := mkHid (((Ext.refl w).al _).trans h2)
  go_wp2_with fail
  go_ret
  exact ⟨v, rfl, h1.out, h2.out⟩
end Go.Proofs.YtplhndmncjoghaaGreatDoor
namespace Go.Proofs.YtplhndmncjoghaaGreatDoor
set_option maxRecDepth 100000
open Go Go.RowKit Go.Proofs
/-- What is kept while dividing by one limb into new limbs. -/
def ShortJ (l : List Nat) (d : Nat) (q : List Nat) (k r : Nat) : Prop := q.length = l.length ∧ OkL q ∧ r < d ∧ val (l.drop k) = val (q.drop k) * d + r
theorem shortJ_start (l : List Nat) {d : Nat} (hd : 0 < d) : ShortJ l d (List.replicate l.length 0) l.length 0 :=
  ⟨by simp, (fun x hx => by rw [List.eq_of_mem_replicate hx]; omega), hd, by simp [val]⟩
theorem shortJ_step {l q : List Nat} {d k r : Nat} (h : ShortJ l d q (k + 1) r) (hk : k < l.length) (okl : OkL l) (hd : d < 4294967296) :
    ShortJ l d (q.set k ((r * 4294967296 + l.getD k 0) / d)) k ((r * 4294967296 + l.getD k 0) % d) := by
  obtain ⟨h1, h2, h3, h5⟩ := h
  have hl := okL_get okl k
  refine ⟨by simpa using h1, okL_set h2 ?_, Nat.mod_lt _ (by omega), ?_⟩
  · exact Nat.div_lt_of_lt_mul (by have := Nat.mul_le_mul_right 4294967296 (show r + 1 ≤ d from h3); omega)
  · rw [val_drop_succ l k hk, h5, val_drop_succ _ k (by simp; omega)]
    have e := Nat.div_add_mod (r * 4294967296 + l.getD k 0) d
    have e2 : (q.set k ((r * 4294967296 + l.getD k 0) / d)).getD k 0 = (r * 4294967296 + l.getD k 0) / d := by simp [show k < q.length by omega]
    have e3 : (q.set k ((r * 4294967296 + l.getD k 0) / d)).drop (k + 1) = q.drop (k + 1) := by rw [List.drop_set_of_lt (by omega)]
    rw [e2, e3]
    generalize (r * 4294967296 + l.getD k 0) / d = x at *
    generalize (r * 4294967296 + l.getD k 0) % d = y at *
    generalize val (q.drop (k + 1)) = v at *
    rw [Nat.add_mul, Nat.mul_add, Nat.mul_assoc 4294967296 v d, Nat.mul_comm x d]
    omega
theorem shortJ_end {l q : List Nat} {d r : Nat} (h : ShortJ l d q 0 r) : val q = val l / d ∧ r = val l % d := by
  obtain ⟨h1, h2, h3, h5⟩ := h
  simp only [List.drop_zero] at h5
  have hd : 0 < d := by omega
  constructor
  · rw [h5, Nat.add_comm, Nat.add_mul_div_right _ _ hd, Nat.div_eq_of_lt h3, Nat.zero_add]
  · rw [h5, Nat.add_comm, Nat.add_mul_mod_self_right, Nat.mod_eq_of_lt h3]
set_option maxRecDepth 100000 in
set_option maxHeartbeats 3200000 in
theorem rshort_c (a : Option Addr) (c : Nat) (l : List Nat) (d : Nat) (w : World) (hl : l.length ≤ 2147483648) (okl : OkL l) (hd : 0 < d) (hd2 : d < 4294967296) (h : Row w a (limV l)) :
    Calls Tryz.prog 225 #[.slice a l.length c, .int .u32 d] w fun e w' => ∃ v, e = .returned (.tuple #[v, .int .u32 ((val l % d : Nat) : Int)]) ∧ MagO w' w.heap.size v (lim (val l / d)) ∧ Ext w w' := by
  obtain ⟨b, off, ha, hc⟩ := h
  replace ha := mkHid ha
  replace hc := mkHid hc
  have hmk := fun w => make32 l.length w (by omega)
  have hst := mkHid (shortJ_start l hd)
  have hdz : ((d : Int) == 0) = false := by rw [beq_eq_false_iff_ne]; omega
  obtain ⟨D, hD⟩ : ∃ D : Int, D = (d : Int) := ⟨_, rfl⟩
  go_enter Tryz.func225, Tryz.ntmps225
  go_wp2_with fail
  go_loopw [7, 8, 9] (fun s i _ wr => ∃ k r q, k ≤ l.length ∧ i = .int .i64 ((k : Int) - 1) ∧ s = .int .u64 (r : Nat) ∧ Blk wr w.heap.size q ∧ ShortJ l d q k r ∧ Ext w wr) (fun _ i _ _ => (intOf i + 1).toNat)
  case atStart => exact ⟨l.length, 0, _, Nat.le_refl _, rfl, rfl, blk_new _ _, hst.out, (Ext.refl w).al _⟩
  case round =>
    obtain ⟨k, r, q, hk, rfl, rfl, hB, hsh, he⟩ := hrel
    cases k with
    | zero =>
      obtain ⟨e1, e2⟩ := shortJ_end hsh
      have hown := hB.own (by have := hsh.1; omega)
      obtain ⟨aa, cc, he0, hle, hrow⟩ := hown.r
      simp only [Value.slice.injEq] at he0
      obtain ⟨rfl, -, rfl⟩ := he0
      have hres := hown.lim hsh.2.1
      have hcall := fun w' (e : Row w' (some ⟨w.heap.size, 0, none⟩) (limV q)) => rtrim_c (some ⟨w.heap.size, 0, none⟩) q q.length w' hsh.2.1 (by have := hsh.1; omega) hle e
      rw [e1] at hres hcall
      rw [hsh.1] at hcall hres
      have hr2 := hsh.2.2.1

      replace hcall := mkHid hcall
      replace hres := mkHid hres
      replace hrow := mkHid hrow
      replace hsh := mkHid hsh
      replace he := mkHid he
      replace e1 := mkHid e1
      replace e2 := mkHid e2
      clear hown hB
      go_wp2_with fail
      refine (hcall.out _ hrow.out).mono ?_
      rintro e w' ⟨rfl, rfl⟩
      go_wp2_with fail
      go_ret2
      exact ⟨.slice (some ⟨w.heap.size, 0, none⟩) (lim (val l / d)).length l.length, by rw [← e2.out]; rfl, hres.out, he.out⟩
    | succ k =>
      rw [show (((k + 1 : Nat)) : Int) - 1 = (k : Int) by omega]
      have h1 := he.cell (row_at hc.out (show k < l.length by omega))
      have hA := ha.out (limV_ne (show k < l.length by omega))
      rw [hA]
      have hx := okL_get okl k
      have hq1 := hsh.1
      have hr := hsh.2.2.1
      have hfr := hB.frozen k
      have hold := hB.cell (k := k) (by omega)
      have hnext := shortJ_step hsh (by omega) okl hd2
      obtain ⟨x, hxe⟩ : ∃ x, x = l.getD k 0 := ⟨_, rfl⟩
      rw [← hxe] at h1 hx hnext
      have hb : (r : Int) * 4294967296 + x ≤ 18446744073709551615 := by omega
      have hb0 : (r : Int) * 4294967296 ≤ 18446744073709551615 := by omega
      have hQ : (r * 4294967296 + x) / d < 4294967296 := Nat.div_lt_of_lt_mul (by have := Nat.mul_le_mul_right 4294967296 (show r + 1 ≤ d from hr); omega)
      have hset := hB.set k ((r * 4294967296 + x) / d)
      have hes := he.st (p := ⟨w.heap.size, k, none⟩) (Nat.le_refl _) (.int .u32 (((r * 4294967296 + x) / d : Nat) : Int))
      have hQD : (((r * 4294967296 + x) / d : Nat) : Int) = ((r : Int) * 4294967296 + x) / d % 4294967296 := by
        have e : ((r : Int) * 4294967296 + x) / d = (((r * 4294967296 + x) / d : Nat) : Int) := by simp
        rw [e]
        generalize (r * 4294967296 + x) / d = Qn at hQ
        omega
      have hRD : (((r * 4294967296 + x) % d : Nat) : Int) = ((r : Int) * 4294967296 + x) % d := by simp
      rw [hQD] at hset hes
      clear hQ
      replace hQD := mkHid hQD
      replace hRD := mkHid hRD
      replace hA := mkHid hA
      replace hnext := mkHid hnext
      replace hsh := mkHid hsh
      replace hset := mkHid hset
      replace hes := mkHid hes
      replace he := mkHid he
      replace hB := mkHid hB
      replace hxe := mkHid hxe
      go_wp2_with fail
      go_roundw
      case rel => exact ⟨k, _, _, by omega, rfl, by rw [← hRD.out], hset.out, hnext.out, hes.out⟩
      case measure => simp [intOf] <;> omega
theorem rhalf_c (a : Option Addr) (c : Nat) (l : List Nat) (w : World) (hl : l.length ≤ 2147483648) (okl : OkL l) (h : Row w a (limV l)) :
    Calls Tryz.prog 249 #[.slice a l.length c] w fun e w' => ∃ v, e = .returned v ∧ MagO w' w.heap.size v (lim (val l / 2)) ∧ Ext w w' := by
  have hs := mkHid (rshort_c a c l 2 w hl okl (by omega) (by omega) h)
  go_enter Tryz.func249, Tryz.ntmps249
  go_wp2_with fail
  refine hs.out.mono ?_
  rintro e w' ⟨v, rfl, h1, h2⟩
  replace h1 := mkHid h1
  replace h2 := mkHid h2
  go_wp2_with fail
  go_ret
  exact ⟨v, rfl, h1.out, h2.out⟩
theorem val_mod2 {x : Nat} {l : List Nat} : val (x :: l) % 2 = x % 2 := by
  simp only [val]
  omega
theorem reven_c (a : Option Addr) (c : Nat) (l : List Nat) (w : World) (hne : l ≠ []) (okl : OkL l) (hl : l.length ≤ 2147483648) (h : Row w a (limV l)) :
    Calls Tryz.prog 248 #[.slice a l.length c] w fun e w' => e = .returned (.bool (decide (val l % 2 = 0))) ∧ w = w' := by
  cases l with
  | nil => exact absurd rfl hne
  | cons x l =>
    obtain ⟨b, off, ha, hc⟩ := h
    have hA := ha (limV_ne (show 0 < (x :: l).length by simp))
    have hcell := row_at hc (show 0 < (x :: l).length by simp)
    have hx := (okL_cons.1 okl).1
    simp only [List.getD_cons_zero, Nat.add_zero] at hcell
    subst hA
    rw [val_mod2]
    have hb : (((x : Int) % 2) == 0) = decide (x % 2 = 0) := by
      rw [Bool.eq_iff_iff]
      simp
      omega
    clear ha hc okl hne
    simp only [List.length_cons] at hl ⊢
    go_enter Tryz.func248, Tryz.ntmps248
    go_wp2_with fail
    go_ret
    exact ⟨rfl, rfl⟩
end Go.Proofs.YtplhndmncjoghaaGreatDoor
namespace Go.Proofs.YtplhndmncjoghaaGreatDoor
set_option maxRecDepth 100000
open Go Go.RowKit Go.Proofs
theorem cmp_le {X R : Nat} : (((X : Int) - R).sign ≤ 0) ↔ X ≤ R := by
  rcases Nat.lt_trichotomy X R with h | h | h
  · rw [sgn_lt h]; omega
  · rw [sgn_eq h]; omega
  · rw [sgn_gt h]; omega
theorem cmp_bounds {X R : Nat} : -1 ≤ ((X : Int) - R).sign ∧ ((X : Int) - R).sign ≤ 1 := by
  rcases Nat.lt_trichotomy X R with h | h | h
  · rw [sgn_lt h]; omega
  · rw [sgn_eq h]; omega
  · rw [sgn_gt h]; omega
theorem nl_small_mul {D m : Nat} (hm : m < 4294967296) : (lim (D * m)).length ≤ (lim D).length + 1 := by
  have := lim_mul D m
  have := lim_one_le hm
  omega
set_option maxRecDepth 100000 in
set_option maxHeartbeats 3200000 in
theorem rfitting_c (a a' : Option Addr) (c c' : Nat) (R D : Nat) (w : World) (hl : (lim R).length ≤ 1073741824) (hm : (lim D).length ≤ 1073741824) (hD : 0 < D) (hR : R < D * 4294967296)
    (h : Row w a (limV (lim R))) (h' : Row w a' (limV (lim D))) :
    Calls Tryz.prog 276 #[.slice a (lim R).length c, .slice a' (lim D).length c'] w fun e w' => e = .returned (.int .u32 ((R / D : Nat) : Int)) ∧ Ext w w' := by
  have hlt : R / D < 4294967296 := Nat.div_lt_of_lt_mul hR
  have HT := mkHid (fun W (e : Ext w W) (m : Nat) (hm2 : m < 4294967296) => rtimes_c a' c' (lim D) m W hm (lim_ok D) hm2 (h'.ext e))
  have HC := mkHid (fun W (e : Ext w W) (X : Nat) a2 c2 (hx : (lim X).length ≤ 4294967296) (r : Row W a2 (limV (lim X))) => rcmp_c a2 a c2 c X R W hx (by omega) r (h.ext e))
  have HS := mkHid (fun m (hm2 : m < 4294967296) => nl_small_mul (D := D) hm2)
  replace hR := mkHid hR
  clear h h'
  replace hD := mkHid hD
  replace hlt := mkHid hlt
  obtain ⟨nr, hnr⟩ : ∃ n, n = (lim R).length := ⟨_, rfl⟩
  obtain ⟨nd, hnd⟩ : ∃ n, n = (lim D).length := ⟨_, rfl⟩
  rw [← hnr] at hl HC ⊢
  rw [← hnd] at hm HT HS ⊢
  clear hnr hnd
  go_enter Tryz.func276, Tryz.ntmps276
  go_wp2_with fail
  go_loopw [5, 6, 7] (fun s i _ wr => ∃ lo hi : Nat, s = .int .u64 (lo : Nat) ∧ i = .int .u64 (hi : Nat) ∧ lo ≤ hi ∧ hi ≤ 4294967295 ∧ D * lo ≤ R ∧ R < D * (hi + 1) ∧ Ext w wr) (fun s i _ _ => (intOf i - intOf s).toNat)
  case atStart => exact ⟨0, 4294967295, rfl, rfl, by omega, by omega, by omega, hR.out, Ext.refl _⟩
  case round =>
    obtain ⟨lo, hi, rfl, rfl, h1, h2, h3, h4, he⟩ := hrel
    replace h3 := mkHid h3
    replace h4 := mkHid h4
    by_cases hlh : lo < hi
    · obtain ⟨m, hm0⟩ : ∃ m, m = (lo + hi + 1) / 2 := ⟨_, rfl⟩
      have hm1 : ((lo : Int) + hi + 1) / 2 = (m : Int) := by omega
      have hm2 : lo < m ∧ m ≤ hi := by omega
      obtain ⟨hm3, hm4⟩ := hm2
      have hmm : (m : Int) % 4294967296 = m := by omega
      have ht := mkHid (HT.out wr he m (by omega))
      have hs := HS.out m (by omega)
      replace hm0 := mkHid hm0
      replace he := mkHid he
      go_wp2_with fail
      refine ht.out.mono ?_
      rintro e w1 ⟨v, rfl, hv, he1⟩
      rw [val_lim] at hv
      obtain ⟨aa, cc, rfl, hle, hrow⟩ := hv.r
      have hc := mkHid (HC.out w1 (he.out.trans he1) (D * m) aa cc (by omega) hrow)
      replace he := mkHid (he.out.trans he1)
      clear hv hrow he1 ht
      go_wp2_with fail
      refine hc.out.mono ?_
      rintro e w2 ⟨rfl, he2⟩
      replace he := mkHid (he.out.trans he2)
      clear he2 hc
      have hcl := cmp_le (X := D * m) (R := R)
      have hcb := cmp_bounds (X := D * m) (R := R)
      generalize (((D * m : Nat) : Int) - (R : Int)).sign = S at *
      replace hcl := mkHid hcl
      by_cases hS : S ≤ 0
      · have h3' := mkHid (hcl.out.1 hS)
        go_wp2_with fail
        go_roundw
        case rel => exact ⟨m, hi, rfl, rfl, by omega, by omega, h3'.out, h4.out, he.out⟩
        case measure => simp [intOf] <;> omega
      · have h4' : R < D * ((m - 1) + 1) := by
          have : ¬ D * m ≤ R := fun h => hS (hcl.out.2 h)
          rw [show m - 1 + 1 = m by omega]
          omega
        replace h4' := mkHid h4'
        go_wp2_with fail
        go_roundw
        case rel => exact ⟨lo, m - 1, rfl, by congr 1; omega, by omega, by omega, h3.out, h4'.out, he.out⟩
        case measure => simp [intOf] <;> omega
    · obtain rfl : lo = hi := by omega
      have hq : R / D = lo := by
        have h3 := h3.out
        have h4 := h4.out
        rw [Nat.mul_comm] at h3 h4
        exact Nat.div_eq_of_lt_le h3 h4
      replace hq := mkHid hq
      replace he := mkHid he
      have hmm : (lo : Int) % 4294967296 = lo := by omega
      go_wp2_with fail
      go_ret
      exact ⟨ret1_eq (by rw [hq.out]), he.out⟩
end Go.Proofs.YtplhndmncjoghaaGreatDoor
namespace Go.Proofs.YtplhndmncjoghaaGreatDoor
set_option maxRecDepth 100000
open Go Go.RowKit Go.Proofs
/-- append of one's own with a slice that reads so, nil included (one cell each). -/
theorem wpList_append_both {P : Program} {w : World} {ops : Array Oper} {rest : List Oper} {o : Oper} {a : Act} {Q : Exit → Act → World → Prop} (hgd : o.guard = none) (s x : Operand) (t : TypeId)
    (ho : o.op = .call { callee := .builtin .append, args := #[s, x], argTypes := #[t, t] })
    (base : Nat) (e : TypeId) (i : TypeInfo) (z : Value) (bytes : Nat) (ht : P.underlying t = some (.slice e)) (hi : P.info? e = some i) (hz : i.zero = some z)
    (hsize : i.size = 1) (hby : i.bytes = bytes) (hzs : z.cells.size = 1)
    (v : Value) (n : Nat) (xs : List Value) (hs : a.eval s = v) (hown : w.ownsRow base e 1 v n xs)
    (news : List Value) (hx : (a.eval x = .slice none 0 0 ∧ news = []) ∨ ∃ ad c, a.eval x = .slice (some ad) news.length c ∧ ∀ j u, news[j]? = some u → w.cell? (ad.add j) = some u) (h1 : ∀ u ∈ news, u.oneCell' = true)
    (h63 : n + news.length ≤ maxLen) (hbytes : (n + news.length) * bytes ≤ 140737488355328) (hbase : base ≤ w.heap.size)
    (h : ∀ v' w', w'.ownsRow base e 1 v' (n + news.length) (xs ++ news) → w.grownBy w' v.ownBlock → wpList P ops Q rest (a.put o.dst v') w') : wpList P ops Q (o :: rest) a w := by
  rcases hx with ⟨hx, rfl⟩ | ⟨ad, c, hx, hn⟩
  · refine wpList_append_own_none hgd s x t ho base e i 1 ht hi v n xs hs hown hx (h v w ?_ (World.grownBy.refl _ _))
    simpa using hown
  · exact wpList_append_own _ hgd s x t ho base e i z 1 bytes ht hi hz hsize hby hzs (by decide) v n xs hs hown ad news.length c news hx (by simp) hn h1 h63 hbytes hbase fun v' w' h2 h3 _ => h v' w' h2 h3
/-- Limbs that read so, in a value that is nil or has a place. -/
def RestR (w : World) (v : Value) (n : Nat) : Prop := (v = .slice none 0 0 ∧ n = 0) ∨ ∃ b off c, v = .slice (some ⟨b, off, none⟩) (lim n).length c ∧ (lim n).length ≤ c ∧ ∀ j, j < (limV (lim n)).length → w.cell? ⟨b, off + j, none⟩ = some ((limV (lim n)).getD j undef)
theorem RestR.ext {w w' : World} {v : Value} {n : Nat} (h : RestR w v n) (e : Ext w w') : RestR w' v n := by
  rcases h with h | ⟨b, off, c, h1, h2, h3⟩
  · exact .inl h
  · exact .inr ⟨b, off, c, h1, h2, fun j hj => e.cell (h3 j hj)⟩
theorem RestR.r {w : World} {v : Value} {n : Nat} (h : RestR w v n) : ∃ a c, v = .slice a (lim n).length c ∧ (lim n).length ≤ c ∧ Row w a (limV (lim n)) := by
  rcases h with ⟨rfl, rfl⟩ | ⟨b, off, c, h1, h2, h3⟩
  · rw [lim_zero]
    exact ⟨none, 0, rfl, Nat.le_refl _, row_nil w⟩
  · exact ⟨_, c, h1, h2, b, off, fun _ => rfl, h3⟩
theorem RestR.of {w : World} {base : Nat} {v : Value} {n : Nat} (h : MagO w base v (lim n)) : RestR w v n := by
  obtain ⟨a, c, h1, h2, b, off, h3, h4⟩ := h.r
  obtain ⟨h5, h6⟩ := h
  rcases h6 with ⟨rfl, h6⟩ | ⟨g, cap, cur, rfl, h7⟩
  · refine .inl ⟨rfl, ?_⟩
    have := val_lim n
    rw [List.eq_nil_of_length_eq_zero h6] at this
    exact this.symm
  · simp only [Value.slice.injEq] at h1
    obtain ⟨rfl, -, rfl⟩ := h1
    by_cases hne : limV (lim n) = []
    · refine .inr ⟨g, 0, _, rfl, h2, fun j hj => ?_⟩
      rw [hne] at hj
      simp at hj
    · have := h3 hne
      simp only [Option.some.injEq, Addr.mk.injEq] at this
      obtain ⟨rfl, rfl, -⟩ := this
      exact .inr ⟨_, _, _, rfl, h2, h4⟩
/-- What append asks of a slice that is put behind: nil, or its cells. -/
def AppX (w : World) (v : Value) (news : List Value) : Prop := (v = .slice none 0 0 ∧ news = []) ∨ ∃ ad c, v = .slice (some ad) news.length c ∧ ∀ j u, news[j]? = some u → w.cell? (ad.add j) = some u
theorem AppX.ext {w w' : World} {v : Value} {news : List Value} (h : AppX w v news) (e : Ext w w') : AppX w' v news := by
  rcases h with h | ⟨ad, c, h1, h2⟩
  · exact .inl h
  · exact .inr ⟨ad, c, h1, fun j u hu => e.cell (h2 j u hu)⟩
theorem RestR.app {w : World} {v : Value} {n : Nat} (h : RestR w v n) : AppX w v (limV (lim n)) := by
  rcases h with ⟨rfl, rfl⟩ | ⟨b, off, c, h1, h2, h3⟩
  · exact .inl ⟨rfl, by rw [lim_zero]; rfl⟩
  · exact .inr ⟨_, c, by rw [h1, limV_length], row_cells h3⟩
/-- What is kept while dividing limb by limb. -/
def DivJ (l : List Nat) (D : Nat) (q : List Nat) (k r : Nat) : Prop := q.length = l.length ∧ OkL q ∧ r < D ∧ (∀ j, j < k → q.getD j 0 = 0) ∧ val (l.drop k) = val (q.drop k) * D + r
theorem divJ_start (l : List Nat) {D : Nat} (hD : 0 < D) : DivJ l D (List.replicate l.length 0) l.length 0 :=
  ⟨by simp, (fun x hx => by rw [List.eq_of_mem_replicate hx]; omega), hD, (fun j hj => by simp [hj]), by simp [val]⟩
theorem divJ_step {l q : List Nat} {D k r : Nat} (h : DivJ l D q (k + 1) r) (hk : k < l.length) (okl : OkL l) :
    DivJ l D (q.set k ((l.getD k 0 + 4294967296 * r) / D)) k ((l.getD k 0 + 4294967296 * r) % D) := by
  obtain ⟨h1, h2, h3, h4, h5⟩ := h
  have hl := okL_get okl k
  refine ⟨by simpa using h1, okL_set h2 ?_, Nat.mod_lt _ (by omega), fun j hj => ?_, ?_⟩
  · exact Nat.div_lt_of_lt_mul (by have := Nat.mul_le_mul_right 4294967296 (show r + 1 ≤ D from h3); omega)
  · have := h4 j (by omega)
    rw [List.getD_eq_getElem?_getD] at this ⊢
    rw [List.getElem?_set_ne (by omega)]
    exact this
  · rw [val_drop_succ l k hk, h5, val_drop_succ _ k (by simp; omega)]
    have e := Nat.div_add_mod (l.getD k 0 + 4294967296 * r) D
    have e2 : (q.set k ((l.getD k 0 + 4294967296 * r) / D)).getD k 0 = (l.getD k 0 + 4294967296 * r) / D := by simp [show k < q.length by omega]
    have e3 : (q.set k ((l.getD k 0 + 4294967296 * r) / D)).drop (k + 1) = q.drop (k + 1) := by rw [List.drop_set_of_lt (by omega)]
    rw [e2, e3]
    generalize (l.getD k 0 + 4294967296 * r) / D = x at *
    generalize (l.getD k 0 + 4294967296 * r) % D = y at *
    generalize val (q.drop (k + 1)) = v at *
    rw [Nat.add_mul, Nat.mul_add, Nat.mul_assoc 4294967296 v D, Nat.mul_comm x D]
    omega
theorem divJ_same {l q : List Nat} {D k r n : Nat} (h : DivJ l D q (k + 1) r) (hk : k < l.length) (hn : n = 0) : q.set k n = q := by
  subst hn
  have h0 := h.2.2.2.1 k (by omega)
  have h1 := h.1
  apply List.ext_getElem?
  intro j
  rw [List.getElem?_set]
  split
  · rename_i e
    subst e
    rw [List.getD_eq_getElem?_getD] at h0
    rw [if_pos (by omega)]
    rw [List.getElem?_eq_getElem (by omega)] at h0 ⊢
    simp at h0
    rw [h0]
  · rfl
theorem divJ_end {l q : List Nat} {D r : Nat} (h : DivJ l D q 0 r) : val q = val l / D ∧ r = val l % D := by
  obtain ⟨h1, h2, h3, h4, h5⟩ := h
  exact shortJ_end ⟨h1, h2, h3, h5⟩
set_option maxRecDepth 100000 in
set_option maxHeartbeats 1600000 in
theorem rdivide_one (a a' : Option Addr) (c c' : Nat) (A D : Nat) (w : World) (hl : (lim A).length ≤ 1073741824) (hD0 : 0 < D) (hD : D < 4294967296)
    (h : Row w a (limV (lim A))) (h' : Row w a' (limV (lim D))) :
    Calls Tryz.prog 253 #[.slice a (lim A).length c, .slice a' (lim D).length c'] w fun e w' => ∃ v1 v2, e = .returned (.tuple #[v1, v2]) ∧ RestR w' v1 (A / D) ∧ RestR w' v2 (A % D) ∧ Ext w w' := by
  rw [lim_one (by omega) hD] at h' ⊢
  obtain ⟨b, off, ha, hc⟩ := h'
  have hA := ha (limV_ne (show 0 < [D].length by simp))
  have hcell := row_at hc (show 0 < [D].length by simp)
  simp only [List.getD_cons_zero, Nat.add_zero] at hcell
  subst hA
  have hs := rshort_c a c (lim A) D w (by omega) (lim_ok A) hD0 hD h
  rw [val_lim] at hs
  replace hs := mkHid hs
  have hr32 : A % D < 4294967296 := Nat.lt_trans (Nat.mod_lt _ hD0) hD
  simp only [List.length_singleton]
  generalize (lim A).length = n at *
  clear ha hc h
  go_enter Tryz.func253, Tryz.ntmps253
  go_wp2_with fail
  refine hs.out.mono ?_
  rintro e w1 ⟨v, rfl, hv, he⟩
  have hr := row_one w1 137 (A % D)
  have okn : OkL [A % D] := fun x hx => by simp at hx; omega
  have htr := rtrim_c (some ⟨w1.heap.size, 0, none⟩) [A % D] 1 _ okn (by simp) (by simp) hr
  have hr2 := hr.lim okn
  have hle := lim_length_val okn
  rw [val_one] at htr hr2 hle
  simp only [List.length_singleton] at hle
  replace htr := mkHid htr
  replace hv := mkHid hv
  replace he := mkHid he
  replace hr2 := mkHid hr2
  obtain ⟨R, hR⟩ : ∃ R, R = A % D := ⟨_, rfl⟩
  simp only [List.length_singleton] at htr
  rw [← hR] at htr hr2 hle hr32 ⊢
  clear hr okn hs
  replace hR := mkHid hR
  go_wp2_with fail
  refine htr.out.mono ?_
  rintro e w' ⟨rfl, rfl⟩
  go_wp2_with fail
  go_ret2
  obtain ⟨b2, off2, h2, h3⟩ := hr2.out
  rw [← hR.out]
  refine ⟨_, _, rfl, (RestR.of hv.out).ext ((Ext.refl _).al _), ?_, he.out.al _⟩
  by_cases h0 : R = 0
  · subst h0
    refine .inr ⟨w1.heap.size, 0, 1, rfl, hle, fun j hj => ?_⟩
    rw [lim_zero] at hj
    simp [limV] at hj
  · have hne : limV (lim R) ≠ [] := by
      rw [lim_pos h0]; simp [limV]
    have := h2 hne
    simp only [Option.some.injEq, Addr.mk.injEq] at this
    obtain ⟨rfl, rfl, -⟩ := this
    exact .inr ⟨_, _, 1, rfl, hle, h3⟩
end Go.Proofs.YtplhndmncjoghaaGreatDoor
namespace Go.Proofs.YtplhndmncjoghaaGreatDoor
set_option maxRecDepth 100000
open Go Go.RowKit Go.Proofs
/-- No number among the cells. -/
def flatV : Value → Bool
  | .int _ _ => false
  | _ => true
theorem Row.flat {w : World} {a : Option Addr} {l : List Nat} {g T : Nat} {fr : Nat × Nat} {old : Array Value} (h : Row w a (limV l)) (hg : w.heap[g]? = some (.cells old T fr)) (ho : old.all flatV = true) (cs : Array Value) : Row (w.setRow g cs) a (limV l) := by
  obtain ⟨b, off, h1, h2⟩ := h
  refine ⟨b, off, h1, fun j hj => ?_⟩
  have hc := h2 j hj
  have hne : b ≠ g := by
    rintro rfl
    rw [limV_getD _ _ (by rw [limV_length] at hj; exact hj)] at hc
    have hc2 : old[off + j]? = some (.int .u32 ((l.getD j 0 : Nat) : Int)) := by
      simp only [World.cell?, hg] at hc
      simpa using hc
    obtain ⟨hlt, he⟩ := Array.getElem?_eq_some_iff.1 hc2
    have := Array.all_eq_true.1 ho _ hlt
    rw [he] at this
    cases this
  have : ((w.setRow g cs).heap[b]?) = w.heap[b]? := setRow_other _ _ _ _ hne
  simp only [World.cell?, this] at hc ⊢
  exact hc
theorem AnyF.flat {w : World} {v : Value} {o : Option Rat} {g T : Nat} {fr : Nat × Nat} {old : Array Value} (h : AnyF w v o) (hg : w.heap[g]? = some (.cells old T fr)) (ho : old.all flatV = true) (cs : Array Value) : AnyF (w.setRow g cs) v o := by
  obtain ⟨b1, l1, b2, l2, ⟨a1, c1, a2, c2, h1, h2, h3, ⟨x1, y1, e1, f1, g1, r1⟩, ⟨x2, y2, e2, f2, g2, r2⟩⟩, h6⟩ := h
  exact ⟨b1, l1, b2, l2, ⟨a1, c1, a2, c2, h1, h2, h3, ⟨x1, y1, e1, f1, g1, r1.flat hg ho cs⟩, ⟨x2, y2, e2, f2, g2, r2.flat hg ho cs⟩⟩, h6⟩
theorem IntR.flat {w : World} {v : Value} {x : Int} {g T : Nat} {fr : Nat × Nat} {old : Array Value} (h : IntR w v x) (hg : w.heap[g]? = some (.cells old T fr)) (ho : old.all flatV = true) (cs : Array Value) : IntR (w.setRow g cs) v x := by
  obtain ⟨s, h1, a, c, h2, h3, r⟩ := h
  exact ⟨s, h1, a, c, h2, h3, r.flat hg ho cs⟩
theorem FracR.flat {w : World} {v : Value} {q : Rat} {g T : Nat} {fr : Nat × Nat} {old : Array Value} (h : FracR w v q) (hg : w.heap[g]? = some (.cells old T fr)) (ho : old.all flatV = true) (cs : Array Value) : FracR (w.setRow g cs) v q := by
  obtain ⟨b1, a1, n1, c1, b2, a2, n2, c2, h1, h2, h3⟩ := h
  exact ⟨b1, a1, n1, c1, b2, a2, n2, c2, h1, h2.flat hg ho cs, h3.flat hg ho cs⟩
theorem lf_two {w : World} {g : Nat} {b1 b2 b3 b4 : Bool} {a1 a2 a3 a4 : Option Addr} {n1 c1 n2 c2 n3 c3 n4 c4 : Nat} {o1 o2 : Option Rat} {T : Nat}
    (hg : w.heap[g]? = some (.cells #[.bool b1, .slice a1 n1 c1, .bool b2, .slice a2 n2 c2, .bool b3, .slice a3 n3 c3, .bool b4, .slice a4 n4 c4] T (0, 0)))
    (h : AnyF w (.agg #[.bool b1, .slice a1 n1 c1, .bool b2, .slice a2 n2 c2]) o1) (h' : AnyF w (.agg #[.bool b3, .slice a3 n3 c3, .bool b4, .slice a4 n4 c4]) o2) : LF w g [o1, o2] := by
  intro k hk
  have hk2 : k = 0 ∨ k = 1 := by simp at hk; omega
  rcases hk2 with rfl | rfl
  · exact ⟨_, _, _, _, _, _, _, _, by simp [World.cell?, hg], by simp [World.cell?, hg], by simp [World.cell?, hg], by simp [World.cell?, hg], h⟩
  · exact ⟨_, _, _, _, _, _, _, _, by simp [World.cell?, hg], by simp [World.cell?, hg], by simp [World.cell?, hg], by simp [World.cell?, hg], h'⟩
/-- What Mul, Sub answer. -/
def opO (f : Rat → Rat → Rat) (o1 o2 : Option Rat) : Option Rat := match o1, o2 with | some x, some y => capF (f x y) | _, _ => none
def opE (f : Rat → Rat → Rat) (o1 o2 : Option Rat) : Int := match o1, o2 with | some x, some y => capE (f x y) | _, _ => 1
end Go.Proofs.YtplhndmncjoghaaGreatDoor
namespace Go.Proofs.YtplhndmncjoghaaGreatDoor
set_option maxRecDepth 100000
open Go Go.RowKit Go.Proofs
/-- A pair of a fraction and a number of error. -/
def PairF (o : Option Rat) (c : Int) (W : World) (v : Value) : Prop := ∃ x, v = .tuple #[x, .int .i64 c] ∧ AnyF W x o
theorem st_any {ss : List FSpec} (o : Option Rat) (h : StableAll Ext ss) : StableAll Ext (.pred (fun W v => AnyF W v o) :: ss) := ⟨fun _ _ _ e h => AnyF.ext h e, h⟩
theorem st_pair {ss : List FSpec} (o : Option Rat) (c : Int) (h : StableAll Ext ss) : StableAll Ext (.pred (PairF o c) :: ss) := ⟨fun _ _ _ e h => by obtain ⟨x, h1, h2⟩ := h; exact ⟨x, h1, h2.ext e⟩, h⟩
theorem nf_div (X Y : Int) (hY : Y ≠ 0) : nf (Rat.divInt X Y) ≤ max (nl X) (nl Y) := by
  unfold nf
  rw [low_num, low_den X Y hY, if_neg hY]
  have h1 := tdiv_nl X (Int.gcd X Y)
  have h2 := tdiv_nl Y (Int.gcd X Y)
  split <;> (try rw [nl_neg, nl_neg]) <;> omega
theorem nf_mul_le (x y : Rat) : nf (x * y) ≤ nf x + nf y := by
  rw [← div_mul]
  refine Nat.le_trans (nf_div _ _ (den_ne x y)) ?_
  have h1 := nl_mul x.num y.num
  have h2 := nl_mul x.den y.den
  unfold nf
  omega
theorem nf_sub_le (x y : Rat) : nf (x - y) ≤ nf x + nf y + 1 := by
  rw [← div_sub]
  refine Nat.le_trans (nf_div _ _ (den_ne x y)) ?_
  have h1 := nl_mul x.num y.den
  have h2 := nl_mul y.num x.den
  have h3 := nl_mul x.den y.den
  have h4 := nl_sub (x.num * y.den) (y.num * x.den)
  unfold nf
  omega
theorem nf_add_le (x y : Rat) : nf (x + y) ≤ nf x + nf y + 1 := by
  rw [← div_add]
  refine Nat.le_trans (nf_div _ _ (den_ne x y)) ?_
  have h1 := nl_mul x.num y.den
  have h2 := nl_mul y.num x.den
  have h3 := nl_mul x.den y.den
  have h4 := nl_add (x.num * y.den) (y.num * x.den)
  unfold nf
  omega
theorem nf_mul (x y : Rat) (hx : nf x ≤ 2048) (hy : nf y ≤ 2048) : nf (x * y) ≤ 268435456 := by
  have := nf_mul_le x y
  omega
theorem nf_sub (x y : Rat) (hx : nf x ≤ 2048) (hy : nf y ≤ 2048) : nf (x - y) ≤ 268435456 := by
  have := nf_sub_le x y
  omega
end Go.Proofs.YtplhndmncjoghaaGreatDoor
namespace Go.Proofs.YtplhndmncjoghaaGreatDoor
set_option maxRecDepth 100000
open Go Go.RowKit Go.Proofs
theorem nl_i64' {n : Int} (h0 : -9223372036854775808 ≤ n) (h1 : n < 9223372036854775808) : nl n ≤ 2048 := by
  unfold nl
  exact Nat.le_trans (lim_length_le (k := 2) (by omega)) (by omega)
end Go.Proofs.YtplhndmncjoghaaGreatDoor
namespace Go.Proofs.YtplhndmncjoghaaGreatDoor
set_option maxRecDepth 100000
open Go Go.RowKit Go.Proofs
/-- The cells of a fraction. -/
def fcells (b1 : Bool) (a1 : Option Addr) (n1 c1 : Nat) (b2 : Bool) (a2 : Option Addr) (n2 c2 : Nat) : List Value := [.bool b1, .slice a1 n1 c1, .bool b2, .slice a2 n2 c2]
/-- A value of api.Matrix. -/
def AnyM (w : World) (v : Value) (oa ob oc od : Option Rat) : Prop :=
  ∃ b1 a1 n1 c1 b2 a2 n2 c2 b3 a3 n3 c3 b4 a4 n4 c4 b5 a5 n5 c5 b6 a6 n6 c6 b7 a7 n7 c7 b8 a8 n8 c8,
    v = .agg #[.bool b1, .slice a1 n1 c1, .bool b2, .slice a2 n2 c2, .bool b3, .slice a3 n3 c3, .bool b4, .slice a4 n4 c4, .bool b5, .slice a5 n5 c5, .bool b6, .slice a6 n6 c6, .bool b7, .slice a7 n7 c7, .bool b8, .slice a8 n8 c8] ∧
    AnyF w (.agg #[.bool b1, .slice a1 n1 c1, .bool b2, .slice a2 n2 c2]) oa ∧ AnyF w (.agg #[.bool b3, .slice a3 n3 c3, .bool b4, .slice a4 n4 c4]) ob ∧
    AnyF w (.agg #[.bool b5, .slice a5 n5 c5, .bool b6, .slice a6 n6 c6]) oc ∧ AnyF w (.agg #[.bool b7, .slice a7 n7 c7, .bool b8, .slice a8 n8 c8]) od
theorem AnyM.ext {w w' : World} {v : Value} {oa ob oc od : Option Rat} (h : AnyM w v oa ob oc od) (e : Ext w w') : AnyM w' v oa ob oc od := by
  obtain ⟨b1, a1, n1, c1, b2, a2, n2, c2, b3, a3, n3, c3, b4, a4, n4, c4, b5, a5, n5, c5, b6, a6, n6, c6, b7, a7, n7, c7, b8, a8, n8, c8, h0, h1, h2, h3, h4⟩ := h
  exact ⟨b1, a1, n1, c1, b2, a2, n2, c2, b3, a3, n3, c3, b4, a4, n4, c4, b5, a5, n5, c5, b6, a6, n6, c6, b7, a7, n7, c7, b8, a8, n8, c8, h0, h1.ext e, h2.ext e, h3.ext e, h4.ext e⟩
end Go.Proofs.YtplhndmncjoghaaGreatDoor
namespace Go.Proofs.YtplhndmncjoghaaGreatDoor
set_option maxRecDepth 100000
open Go Go.RowKit Go.Proofs
theorem eq_of_getD {l m : List Nat} (hl : l.length = m.length) (h : ∀ j, j < l.length → l.getD j 0 = m.getD j 0) : l = m := by
  refine List.ext_getElem hl fun j h1 h2 => ?_
  have := h j h1
  simpa [List.getD_eq_getElem?_getD, h1, h2] using this
set_option maxHeartbeats 3200000 in
theorem sameInt_c (v1 v2 : Value) (b1 b2 : Bool) (l1 l2 : List Nat) (w : World) (hl1 : l1.length ≤ 4294967296) (_hl2 : l2.length ≤ 4294967296) (h1 : AnyR w v1 b1 l1) (h2 : AnyR w v2 b2 l2) :
    Calls Tryz.prog 177 #[v1, v2] w fun e w' => e = .returned (.bool (decide (b1 = b2 ∧ l1 = l2))) ∧ Ext w w' := by
  obtain ⟨a1, c1, rfl, ok1, _, r1⟩ := h1
  obtain ⟨a2, c2, rfl, ok2, _, r2⟩ := h2
  by_cases hb : b1 = b2
  · by_cases hlen : l1.length = l2.length
    · subst hb
      obtain ⟨r, hr⟩ : ∃ r, r = decide (b1 = b1 ∧ l1 = l2) := ⟨_, rfl⟩
      rw [← hr]
      obtain ⟨g1, o1, ha1, hc1⟩ := r1
      obtain ⟨g2, o2, ha2, hc2⟩ := r2
      obtain ⟨n, hn⟩ : ∃ n, n = l1.length := ⟨_, rfl⟩
      have hn2 : n = l2.length := by omega
      have hnb : n ≤ 4294967296 := by omega
      rw [← hn, ← hn2]
      obtain ⟨wb, hwb⟩ : ∃ wb, wb = (w.alloc (.cells #[.bool b1, .slice a1 n c1] 25)).alloc (.cells #[.bool b1, .slice a2 n c2] 25) := ⟨_, rfl⟩
      have hE : Ext w wb := by rw [hwb]; exact ((Ext.refl w).al _).al _
      have z0 : wb.heap[w.heap.size]? = some (.cells #[.bool b1, .slice a1 n c1] 25 (0, 0)) := by rw [hwb]; exact (heap_alloc_old _ _ (by simp)).trans (heap_alloc_new _ _)
      have z1 : wb.heap[w.heap.size + 1]? = some (.cells #[.bool b1, .slice a2 n c2] 25 (0, 0)) := by rw [hwb]; exact heap_at _ _ _ (by simp)
      have y0 := row2_cells z0
      have y1 := row2_cells z1
      replace hwb := mkHid hwb
      replace hr := mkHid hr
      replace hn := mkHid hn
      replace hn2 := mkHid hn2
      replace ha1 := mkHid ha1
      replace ha2 := mkHid ha2
      replace hc1 := mkHid hc1
      replace hc2 := mkHid hc2
      replace hE := mkHid hE
      clear hlen z0 z1
      go_enter Tryz.func177, Tryz.ntmps177
      go_wp2_with fail
      rw [← hwb.out]
      obtain ⟨wo, hwo⟩ : ∃ wo : World, wo = wb := ⟨_, rfl⟩
      go_loopw [5] (fun i wr => ∃ k, k ≤ n ∧ i = .int .i64 (k : Nat) ∧ Ext wo wr ∧ ∀ j, j < k → l1.getD j 0 = l2.getD j 0) (fun i _ => n - (intOf i).toNat)
      case atStart => exact ⟨0, Nat.zero_le _, rfl, hwo ▸ Ext.refl _, fun j hj => absurd hj (by omega)⟩
      case round =>
        obtain ⟨k, hk, rfl, hX, hj⟩ := hrel
        have x0 := (hwo ▸ hX : Ext wb wr).cell y0.2
        have x1 := (hwo ▸ hX : Ext wb wr).cell y1.2
        have hEw : Ext w wr := hE.out.trans (hwo ▸ hX)
        clear y0 y1
        by_cases hlt : k < n
        · have u1 : k < l1.length := by rw [← hn.out]; exact hlt
          have u2 : k < l2.length := by rw [← hn2.out]; exact hlt
          have e1 : wr.cell? ⟨g1, o1 + k, none⟩ = some (.int .u32 (l1.getD k 0 : Nat)) := by
            have := hEw.cell (hc1.out k (by rw [limV_length]; exact u1))
            rwa [limV_getD _ _ u1] at this
          have e2 : wr.cell? ⟨g2, o2 + k, none⟩ = some (.int .u32 (l2.getD k 0 : Nat)) := by
            have := hEw.cell (hc2.out k (by rw [limV_length]; exact u2))
            rwa [limV_getD _ _ u2] at this
          have q1 := ha1.out (limV_ne u1)
          have q2 := ha2.out (limV_ne u2)
          subst q1
          subst q2
          have hne : l1.getD k 0 ≠ l2.getD k 0 → r = false := by
            intro h
            rw [hr.out]
            refine decide_eq_false (fun e => h (by rw [e.2]))
          have hs : ∀ j, j < k + 1 → l1.getD k 0 = l2.getD k 0 → l1.getD j 0 = l2.getD j 0 := by
            intro j h e
            rcases Nat.lt_or_ge j k with h1 | h1
            · exact hj j h1
            · obtain rfl : j = k := by omega
              exact e
          generalize l1.getD k 0 = x at *
          generalize l2.getD k 0 = y at *
          replace hs := mkHid hs
          replace hne := mkHid hne
          replace hEw := mkHid hEw
          replace hX := mkHid hX
          clear hj u1 u2 hc1 hc2 ha1 ha2
          by_cases hxy : x = y
          · subst hxy
            go_wp2_with fail
            go_quiet (fail)
            go_wp2_with fail
            go_roundw
            case rel => exact ⟨k + 1, by omega, by go_num, hX.out.drN _, fun j h => hs.out j h (by trivial)⟩
            case measure => simp [intOf] <;> omega
          · have hb1 : ((x : Int) == (y : Int)) = false := by rw [beq_eq_false_iff_ne]; omega
            obtain rfl := hne.out hxy
            replace hxy := mkHid hxy
            go_wp2_with fail
            go_quiet (fail)
            go_wp2_with fail
            go_ret
            exact ⟨rfl, hEw.out.drN _⟩
        · obtain rfl : n = k := by omega
          have hrt : r = true := by
            rw [hr.out]
            exact decide_eq_true ⟨by trivial, eq_of_getD (by rw [← hn.out, ← hn2.out]) (fun j h => hj j (by rw [hn.out]; exact h))⟩
          subst hrt
          replace hEw := mkHid hEw
          clear hj hX
          go_wp2_with fail
          go_ret
          exact ⟨rfl, hEw.out⟩
    · have hf : decide (b1 = b2 ∧ l1 = l2) = false := decide_eq_false (fun h => hlen (by rw [h.2]))
      rw [hf]
      have hl : ((l1.length : Int) == (l2.length : Int)) = false := by rw [beq_eq_false_iff_ne]; omega
      subst hb
      clear hf r1 r2
      generalize l1.length = n1 at *
      generalize l2.length = n2 at *
      replace hlen := mkHid hlen
      go_enter Tryz.func177, Tryz.ntmps177
      go_wp2_with fail
      go_ret
      exact ⟨rfl, ((Ext.refl _).al _).al _⟩
  · have hf : decide (b1 = b2 ∧ l1 = l2) = false := decide_eq_false (fun h => hb h.1)
    rw [hf]
    have hbb : (b1 == b2) = false := by rw [beq_eq_false_iff_ne]; exact hb
    clear hf r1 r2
    generalize l1.length = n1 at *
    generalize l2.length = n2 at *
    replace hb := mkHid hb
    go_enter Tryz.func177, Tryz.ntmps177
    go_wp2_with fail
    go_ret
    exact ⟨rfl, ((Ext.refl _).al _).al _⟩
end Go.Proofs.YtplhndmncjoghaaGreatDoor
