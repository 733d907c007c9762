/-
  The Book: the kind Number.
-/
import Derived.Test.YtbpjggljbkppaaaGreatDoorBookM
namespace Go.Proofs.YtbpjggljbkppaaaGreatDoor
open Go Go.RowKit Go.Proofs
def mkNumber (n : Int) : Value := .int .i64 (-1000 - n)
theorem markNumber_c (n : Int) (w : World) (h0 : 0 ≤ n) (h1 : n ≤ 1000000) : Calls Tryz.prog 75 #[.int .i64 n] w fun e w' => e = .returned (mkNumber n) ∧ w = w' := by
  go_enter Tryz.func75, Tryz.ntmps75
  go_wp2_with fail
  go_ret
  exact ⟨rfl, rfl⟩
theorem isNumber_c (n : Int) (w : World) (h0 : 0 ≤ n) (h1 : n ≤ 1000000) : Calls Tryz.prog 91 #[mkNumber n, .int .i64 n] w fun e w' => e = .returned (.bool true) ∧ w = w' := by
  unfold mkNumber
  go_enter Tryz.func91, Tryz.ntmps91
  go_wp2_with fail
  go_ret
  exact ⟨by simp, rfl⟩
theorem infoNumber : (Tryz.prog.info? 3).map (fun i => (i.zero, i.size, i.bytes)) = some (some (.int .i64 0), 1, 8) := by kernel_rfl
theorem underNumber : Tryz.prog.underlying 53 = some (.slice 3) := by kernel_rfl
set_option maxRecDepth 100000 in
theorem fillNumber_c (bk hb cap base : Nat) (es : List Ent) (w : World) (h : w.cell? ⟨bk, 2, none⟩ = some (.slice (some ⟨hb, 0, none⟩) es.length cap)) (h2 : es.length ≤ 1000000)
   (hH : Holds w hb es) (hL : Lists base 3 w es) (hD : Distinct es) (hb1 : ¬ Blocks es bk) (hb2 : ¬ Blocks es hb) (hn : ∀ i (h : i < es.length), es[i].n ≤ 1000000 ∧ es[i].len ≤ 281474976710656) :
   Calls Tryz.prog 22 #[.pointer (some ⟨bk, 0, none⟩)] w fun e w' => e = .returned (.tuple #[]) ∧ FillI base 3 mkNumber w w' es es.length := by
  have hst := mkHid (fill_start (mk := mkNumber) hL)
  replace hb1 := mkHid hb1
  replace hb2 := mkHid hb2
  replace hH := mkHid hH
  replace hD := mkHid hD
  replace hn := mkHid hn
  replace hL := mkHid hL
  go_enter Tryz.func22, Tryz.ntmps22
  go_wp2_with fail
  go_loopw [2] (fun i wr => ∃ k : Nat, k ≤ es.length ∧ i = .int .i64 k ∧ FillI base 3 mkNumber w wr es k) (fun i _ => es.length - (intOf i).toNat)
  case atStart => exact ⟨0, Nat.zero_le _, rfl, hst.out⟩
  case round =>
    obtain ⟨k, hk, rfl, hfi⟩ := hrel
    have hbk := hfi.1.cell h hb1.out
    by_cases hlt : k < es.length
    · obtain ⟨a1, ⟨la, ln, lc, a2⟩, a3, -⟩ := (hH.out.chg hfi.1 hb2.out) k hlt
      obtain ⟨hn1, hn2⟩ := hn.out k hlt
      obtain ⟨xs, hxs⟩ := hfi.2.2 k hlt
      have hstep := fun o W => fill_step (W := W) (o := o) hfi hlt hD.out
      replace hstep := mkHid hstep
      replace hfi := mkHid hfi
      obtain ⟨a, c, hv, hc1, hc2, hc3⟩ := owns_shape hxs
      obtain ⟨n, hne⟩ : ∃ n, n = es[k].n := ⟨_, rfl⟩
      obtain ⟨len, hle⟩ : ∃ len, len = es[k].len := ⟨_, rfl⟩
      rw [hv] at a1 hxs hstep
      rw [← hle] at a1 hxs hstep hc1 hc2 hc3 hn2
      rw [← hne] at a3 hstep hn1
      replace hxs := mkHid hxs
      replace hv := mkHid hv
      clear hne hle
      go_wp2_with fail
      obtain ⟨W1, hW1⟩ : ∃ W1, W1 = wr.alloc (.cells #[.slice a len c, .slice la ln lc, .int .i64 n] 77) := ⟨_, rfl⟩
      have hx1 : W1.ownsRow base 3 1 (.slice a len c) len xs := by rw [hW1]; exact hxs.out.alloc _
      have c0 : W1.cell? ⟨wr.heap.size, 0, none⟩ = some (.slice a len c) := by rw [hW1]; go_simp
      have c2 : W1.cell? ⟨wr.heap.size, 2, none⟩ = some (.int .i64 n) := by rw [hW1]; go_simp
      have hne : some wr.heap.size ≠ (Value.slice a len c).ownBlock := fun e => Nat.lt_irrefl _ (hxs.out.lt _ e.symm).2
      rw [← hW1]
      replace hW1 := mkHid hW1
      replace hxs := mkHid hxs
      generalize wr.heap.size = hh at *
      replace hx1 := mkHid hx1
      go_loopw [4] (fun j W2 => ∃ q : Nat, q ≤ len ∧ j = .int .i64 q ∧ W1.grownBy W2 (Value.slice a len c).ownBlock ∧ W2.ownsRow base 3 1 (.slice a len c) len (part (mkNumber n) xs q)) (fun j _ => len - (intOf j).toNat)
      case atStart => exact ⟨0, Nat.zero_le _, rfl, World.grownBy.refl _ _, by rw [part_zero]; exact hx1.out⟩
      case round =>
        obtain ⟨q, hq, rfl, hgr, how⟩ := hrel
        have d0 := hgr.cell c0 hne
        have d2 := hgr.cell c2 hne
        clear c0 c2
        by_cases hql : q < len
        · obtain ⟨g, rfl⟩ := hc3 (by omega)
          go_wp2_with fail
          have d0 := fun W (e : Ext wr W) => e.cell d0
          have d2 := fun W (e : Ext wr W) => e.cell d2
          have hmk := fun w => markNumber_c n w (by omega) (by omega)
          apply region_ext [.val _, .val _, .val _, .val _, .val _, .val _, .val _] (by kernel_rfl) (stable_vals _ (stable_vals _ (stable_vals _ (stable_vals _ (stable_vals _ (stable_vals _ (stable_vals _ trivial)))))))
          iterate 5 (refine ⟨fun W hW _ => by go_simp; exact ⟨Ext.refl _, rfl⟩, ?_⟩)
          refine ⟨fun W hW _ => by go_simp; exact (hmk W).mono (by rintro e w' ⟨rfl, rfl⟩; exact ⟨rfl, Ext.refl _⟩), ?_⟩
          iterate 1 (refine ⟨fun W hW _ => by go_simp; exact ⟨Ext.refl _, rfl⟩, ?_⟩)
          intro W hW _
          have how' := ownsRow_ext how hW
          obtain ⟨old, hold⟩ : ∃ old, W.cell? ⟨g, q, none⟩ = some old := by
            rw [how'.cellAt q (by omega), List.getElem?_eq_getElem (by rw [part_length _ _ _ (by omega)]; omega)]
            exact ⟨_, rfl⟩
          obtain ⟨hs1, hs2⟩ := how'.stored q (mkNumber n)
          rw [part_set _ _ _ (by omega)] at hs1
          have hgr' : W1.grownBy (W.setCell ⟨g, q, none⟩ (mkNumber n)) (Value.slice (some ⟨g, 0, none⟩) len c).ownBlock := grownBy_join hgr hW hs2
          replace hs1 := mkHid hs1
          replace hgr' := mkHid hgr'
          have hfz := how'.frozenAt q
          clear hs2 how how' hgr d0 d2 hmk
          go_simp
          unfold mkNumber at *
          go_wp2_with fail
          go_roundw
          case rel => exact ⟨q + 1, by omega, by go_num, hgr'.out, hs1.out⟩
          case measure => simp [intOf] <;> omega
        · obtain rfl : q = len := by omega
          go_wp2_with fail
          go_roundw
          case rel => 
            refine ⟨k + 1, by omega, by go_num, hstep.out _ _ (by rw [← hW1.out]; exact hgr) ?_⟩
            rw [← hc2, part_end] at how
            rw [← hc2]
            exact how
          case measure => simp [intOf] <;> omega
    · go_wp2_with fail
      go_end0
      obtain rfl : k = es.length := by omega
      exact ⟨rfl, hfi⟩
set_option maxHeartbeats 1600000 in
set_option maxRecDepth 100000 in
theorem growNumber_c (bk hb cap base : Nat) (es : List Ent) (w : World) (h : w.cell? ⟨bk, 2, none⟩ = some (.slice (some ⟨hb, 0, none⟩) es.length cap)) (h2 : es.length ≤ 1000000)
   (hH : Holds w hb es) (hM : Marked base 3 mkNumber w es es.length) (hD : Distinct es) (hb1 : ¬ Blocks es bk) (hb2 : ¬ Blocks es hb) (hb3 : bk ≠ hb) (hb4 : hb < w.heap.size) (hbs : base ≤ w.heap.size) (hn : ∀ i (h : i < es.length), es[i].n ≤ 1000000 ∧ es[i].len ≤ 1000000000) :
   Calls Tryz.prog 38 #[.pointer (some ⟨bk, 0, none⟩)] w fun e w' => e = .returned (.tuple #[]) ∧ GrowI base 3 mkNumber w w' hb es es.length := by
  have hst := mkHid (growI_start hM hH)
  have hBl : Hid (∀ g, Blocks es g → g < w.heap.size) := mkHid fun g ⟨i, hi, hg⟩ => ((hM i hi hi).lt g hg).2
  replace hb1 := mkHid hb1
  replace hb2 := mkHid hb2
  replace hb3 := mkHid hb3
  replace hH := mkHid hH
  replace hD := mkHid hD
  replace hn := mkHid hn
  replace hM := mkHid hM
  go_enter Tryz.func38, Tryz.ntmps38
  go_wp2_with fail
  go_loopw [2] (fun i wr => ∃ k : Nat, k ≤ es.length ∧ i = .int .i64 k ∧ GrowI base 3 mkNumber w wr hb es k) (fun i _ => es.length - (intOf i).toNat)
  case atStart => exact ⟨0, Nat.zero_le _, rfl, hst.out⟩
  case round =>
    obtain ⟨k, hk, rfl, hfi⟩ := hrel
    have hbk := hfi.1.cell h (fun e => e.elim hb1.out hb3.out)
    by_cases hlt : k < es.length
    · obtain ⟨a1, ⟨la, ln, lc, a2⟩, a3, hfz⟩ := hfi.2.2.1 k hlt
      obtain ⟨hn1, hn2⟩ := hn.out k hlt
      have hxs := hfi.2.1 k hlt hlt
      have hss := hfi.1.size
      have hstep := fun o W v => growI_step (W2 := W) (o := o) (v := v) hfi hlt hD.out hb4 hb2.out hBl.out
      replace hstep := mkHid hstep
      replace hfi := mkHid hfi
      obtain ⟨a, c, hv, hc1, hc2, hc3⟩ := owns_shape hxs
      obtain ⟨n, hne⟩ : ∃ n, n = es[k].n := ⟨_, rfl⟩
      obtain ⟨len, hle⟩ : ∃ len, len = es[k].len := ⟨_, rfl⟩
      rw [hv] at a1 hxs hstep
      rw [← hle] at a1 hxs hstep hc1 hc2 hc3 hn2 hv
      rw [← hne] at a3 hstep hn1 hxs
      replace hxs := mkHid hxs
      replace hv := mkHid hv
      clear hne hle hc2
      go_wp2_with fail
      obtain ⟨W1, hW1⟩ : ∃ W1, W1 = wr.alloc (.cells #[.slice a len c, .slice la ln lc, .int .i64 n] 77) := ⟨_, rfl⟩
      have hx1 : W1.ownsRow base 3 1 (.slice a len c) len (List.replicate len (mkNumber n)) := by rw [hW1]; exact hxs.out.alloc _
      have c2 : W1.cell? ⟨wr.heap.size, 2, none⟩ = some (.int .i64 n) := by rw [hW1]; go_simp
      have cbk : W1.cell? ⟨bk, 2, none⟩ = some (.slice (some ⟨hb, 0, none⟩) es.length cap) := by rw [hW1]; exact ((Chg.al wr _ (fun _ => False)).cell hbk (by simp))
      have clg : W1.cell? ⟨hb, k * 3 + 1, none⟩ = some (.slice la ln lc) := by rw [hW1]; exact ((Chg.al wr _ (fun _ => False)).cell a2 (by simp))
      have clg0 := mkHid clg
      have hfz : W1.frozen? ⟨hb, k * 3 + 1, none⟩ = false := by rw [hW1, World.frozen?_of_block ((Chg.al wr _ (fun _ => False)).block hb (World.block_lt_of_cell? _ _ a2) (by simp))]; exact hfz
      have hne : some wr.heap.size ≠ (Value.slice a len c).ownBlock := fun e => Nat.lt_irrefl _ (hxs.out.lt _ e.symm).2
      have hne2 : some bk ≠ (Value.slice a len c).ownBlock := fun e => hb1.out ⟨k, hlt, by rw [hv.out]; exact e.symm⟩
      have hne3 : some hb ≠ (Value.slice a len c).ownBlock := fun e => hb2.out ⟨k, hlt, by rw [hv.out]; exact e.symm⟩
      have hlw : ∀ g, (Value.slice a len c).ownBlock = some g → g < W1.heap.size := fun g e => (hx1.lt g e).2
      have hbw : base ≤ W1.heap.size := by rw [hW1]; simp; omega
      rw [← hW1]
      replace hW1 := mkHid hW1
      replace hxs := mkHid hxs
      replace hlw := mkHid hlw
      generalize wr.heap.size = hh at *
      have hgs := growR_start hx1
      clear a1 a2 a3 hbk hx1
      obtain ⟨i0, hi, hz0, hz1, hz2⟩ := info_parts infoNumber
      go_loopw [5, 4] (fun j lg W2 => ∃ q : Nat, q ≤ 70 ∧ j = .int .i64 q ∧ GrowR base 3 (mkNumber n) W1 W2 (.slice a len c) len lg q) (fun j _ _ => 70 - (intOf j).toNat)
      case atStart => exact ⟨0, Nat.zero_le _, rfl, hgs⟩
      case round =>
        obtain ⟨q, hq, rfl, hgr⟩ := hrel
        have d2 := hgr.1.cell c2 hne
        have dbk := hgr.1.cell cbk hne2
        have dlg := hgr.1.cell clg hne3
        clear c2 cbk clg
        by_cases hql : q < 70
        · obtain ⟨v', w', happ, hgr'⟩ := growR_step underNumber hi hz0 hz1 hz2 rfl (m := mkNumber n) rfl (ty := 53) hgr hlw.out hbw (by omega) (by omega)
          replace hgr := mkHid hgr
          replace hgr' := mkHid hgr'
          unfold mkNumber at happ
          replace happ := mkHid happ
          go_wp2_with (first | (at_builtin; refine wpList_append_ran rfl (.tmp 28) (.tmp 32) 53 rfl rfl rfl happ.out ?_) | (go_at_call 75; refine (markNumber_c n _ (by omega) (by omega)).mono ?_; unfold mkNumber; rintro e w' ⟨rfl, rfl⟩))
          go_roundw
          case rel => exact ⟨q + 1, by omega, by go_num, hgr'.out⟩
          case measure => simp [intOf] <;> omega
        · obtain rfl : q = 70 := by omega
          obtain ⟨a4, c4, hlg, -⟩ := owns_shape hgr.2.1
          have hfz4 : wr.frozen? ⟨hb, k * 3 + 1, none⟩ = false := by
            rw [World.frozen?_of_block ((Chg.grown hgr.1).block hb (World.block_lt_of_cell? _ _ clg0.out) hne3)]
            exact hfz
          have hst2 := hstep.out _ _ _ (by rw [← hW1.out]; exact hgr)
          rw [hlg] at hst2 ⊢
          replace hst2 := mkHid hst2
          replace hgr := mkHid hgr
          go_wp2_with fail
          go_roundw
          case rel => exact ⟨k + 1, by omega, by go_num, hst2.out⟩
          case measure => simp [intOf] <;> omega
    · go_wp2_with fail
      go_end0
      obtain rfl : k = es.length := by omega
      exact ⟨rfl, hfi⟩
set_option maxHeartbeats 1600000 in
set_option maxRecDepth 100000 in
theorem lookNumber_c (bk hb cap base : Nat) (es : List Ent) (w0 w : World) (h : w.cell? ⟨bk, 2, none⟩ = some (.slice (some ⟨hb, 0, none⟩) es.length cap)) (h2 : es.length ≤ 1000000)
   (hG : LookI base 3 mkNumber w0 w hb es es.length) (hn : ∀ i (h : i < es.length), es[i].n ≤ 1000000 ∧ es[i].len ≤ 1000000000) :
   Calls Tryz.prog 54 #[.pointer (some ⟨bk, 0, none⟩)] w fun e w' => e = .returned (.bool true) ∧ Ext w w' := by
  replace hG := mkHid hG
  replace hn := mkHid hn
  go_enter Tryz.func54, Tryz.ntmps54
  go_wp2_with fail
  go_loopw [3] (fun i wr => ∃ k : Nat, k ≤ es.length ∧ i = .int .i64 k ∧ Ext w wr) (fun i _ => es.length - (intOf i).toNat)
  case atStart => exact ⟨0, Nat.zero_le _, rfl, Ext.refl _⟩
  case round =>
    obtain ⟨k, hk, rfl, hE⟩ := hrel
    have hbk := hE.cell h
    by_cases hlt : k < es.length
    · obtain ⟨a1, -, a3, -⟩ := hG.out.2.2.1 k hlt
      obtain ⟨lg, a2, hlo, -⟩ := hG.out.2.2.2 k hlt hlt
      obtain ⟨hn1, hn2⟩ := hn.out k hlt
      have hxs := hG.out.2.1 k hlt hlt
      obtain ⟨a, c, hv, hr⟩ := row_of_owns hxs
      obtain ⟨a', c', hv', hr'⟩ := row_of_owns hlo
      have hr := hr.2
      have hr' := hr'.2
      subst hv'
      rw [hv] at a1
      obtain ⟨n, hne⟩ : ∃ n, n = es[k].n := ⟨_, rfl⟩
      obtain ⟨len, hle⟩ : ∃ len, len = es[k].len := ⟨_, rfl⟩
      rw [← hle] at a1 a2 hr hr' hn2
      rw [← hne] at a3 hn1 hr hr'
      replace a1 := hE.cell a1
      replace a2 := hE.cell a2
      replace a3 := hE.cell a3
      replace hr := hr.ext hE
      replace hr' := hr'.ext hE
      clear hv hne hle hxs hlo
      replace hr := mkHid hr
      replace hr' := mkHid hr'
      replace hE := mkHid hE
      go_wp2_with fail
      obtain ⟨W1, hW1⟩ : ∃ W1, W1 = wr.alloc (.cells #[.slice a len c, .slice a' (len + 70) c', .int .i64 n] 77) := ⟨_, rfl⟩
      have hE1 : Ext wr W1 := by rw [hW1]; exact (Ext.refl _).al _
      have c0 : W1.cell? ⟨wr.heap.size, 0, none⟩ = some (.slice a len c) := by rw [hW1]; go_simp
      have c1 : W1.cell? ⟨wr.heap.size, 1, none⟩ = some (.slice a' (len + 70) c') := by rw [hW1]; go_simp
      have c2 : W1.cell? ⟨wr.heap.size, 2, none⟩ = some (.int .i64 n) := by rw [hW1]; go_simp
      have hr2 := mkHid (hr.out.ext hE1)
      have hr2' := mkHid (hr'.out.ext hE1)
      have hE2 := mkHid (hE.out.trans hE1)
      rw [← hW1]
      generalize wr.heap.size = hh at *
      clear hr hr' hE hE1 hW1 a1 a2 a3 hbk
      have hic := fun w => isNumber_c n w (by omega) (by omega)
      unfold mkNumber at hic
      replace hic := mkHid hic
      go_loopw [5] (fun j W2 => ∃ q : Nat, q ≤ len + 70 ∧ j = .int .i64 q ∧ ∃ m, W2 = W1.drewN m) (fun j _ => len + 70 - (intOf j).toNat)
      case atStart => exact ⟨0, Nat.zero_le _, rfl, 0, rfl⟩
      case round =>
        obtain ⟨q, hq, rfl, hd⟩ := hrel
        replace c0 : wr.cell? _ = _ := (cell_drew hd _).trans c0
        replace c1 : wr.cell? _ = _ := (cell_drew hd _).trans c1
        replace c2 : wr.cell? _ = _ := (cell_drew hd _).trans c2
        by_cases hql : q < len + 70
        · obtain ⟨b', off', ha', hc'⟩ := hr2'.out
          have x1 := hc' q (by simpa using hql)
          have hA' := ha' (by simp)
          have hg1 : (List.replicate (len + 70) (mkNumber n)).getD q undef = .int .i64 (-1000 - n) := by simp [List.getD_eq_getElem?_getD, hql, mkNumber]
          rw [hg1] at x1
          replace x1 : wr.cell? _ = _ := (cell_drew hd _).trans x1
          rw [hA'] at c1 ⊢
          clear hg1 ha' hc' hA'
          by_cases hql2 : q < len
          · obtain ⟨b, off, ha, hc⟩ := hr2.out
            have x2 := hc q (by simpa using hql2)
            have hA := ha (by simp; omega)
            have hg2 : (List.replicate len (mkNumber n)).getD q undef = .int .i64 (-1000 - n) := by simp [List.getD_eq_getElem?_getD, hql2, mkNumber]
            rw [hg2] at x2
            replace x2 : wr.cell? _ = _ := (cell_drew hd _).trans x2
            rw [hA] at c0 ⊢
            clear hg2 ha hc hA
            replace hd := mkHid hd
            go_wp2_with fail
            go_quiet ((go_at_call 91; exact Calls.quiet_of_same ((hic.out _).mono fun _ _ h => ⟨h.1, h.2.symm⟩)))
            go_wp2_with fail
            go_roundw
            case rel => exact ⟨q + 1, by omega, by go_num, drew_more hd.out _⟩
            case measure => simp [intOf] <;> omega
          · replace hd := mkHid hd
            go_wp2_with fail
            go_quiet ((go_at_call 91; exact Calls.quiet_of_same ((hic.out _).mono fun _ _ h => ⟨h.1, h.2.symm⟩)))
            go_wp2_with fail
            go_roundw
            case rel => exact ⟨q + 1, by omega, by go_num, drew_more hd.out _⟩
            case measure => simp [intOf] <;> omega
        · obtain rfl : q = len + 70 := by omega
          have hE3 : Ext w wr := by
            obtain ⟨m, rfl⟩ := hd
            exact hE2.out.drN _
          replace hE3 := mkHid hE3
          replace hd := mkHid hd
          go_wp2_with fail
          go_roundw
          case rel => exact ⟨k + 1, by omega, by go_num, hE3.out⟩
          case measure => simp [intOf] <;> omega
    · go_wp2_with fail
      go_ret
      exact ⟨rfl, hE⟩
theorem infoHeldNumber : (Tryz.prog.info? 77).map (fun i => (i.zero, i.size, i.bytes)) = some (some (.agg #[.slice none 0 0, .slice none 0 0, .int .i64 0]), 3, 56) := by kernel_rfl
theorem underHeldNumber : Tryz.prog.underlying 30 = some (.slice 77) := by kernel_rfl
set_option maxHeartbeats 1600000 in
set_option maxRecDepth 100000 in
theorem keepNumber_c (bk base : Nat) (sa : Option Addr) (sc : Nat) (la : Option Addr) (len lc : Nat) (es : List Ent) (n : Nat) (w : World) (hn : n ≤ 1000000) (hes : es.length ≤ 1000000)
    (h0 : w.cell? ⟨bk, 0, none⟩ = some (.int .i64 n)) (hs : w.cell? ⟨bk, 2, none⟩ = some (.slice sa es.length sc)) (hf : ∀ j, w.frozen? ⟨bk, j, none⟩ = false)
    (ho : Own3 base 77 w (.slice sa es.length sc) es) (hbk : some bk ≠ (Value.slice sa es.length sc).ownBlock) (hbs : base ≤ w.heap.size) :
    Calls Tryz.prog 73 #[.pointer (some ⟨bk, 0, none⟩), .slice la len lc] w fun e w' => e = .returned (.tuple #[]) ∧
      Kept bk 2 base 77 w (.slice sa es.length sc) es (Ent.mk (.slice la len lc) (n + 1) len) w' := by
  have hbw : bk < w.heap.size := World.block_lt_of_cell? w _ h0
  have hf0 := hf 0
  replace hf := mkHid hf
  replace ho := mkHid ho
  go_enter Tryz.func73, Tryz.ntmps73
  go_wp2_with fail
  obtain ⟨N, hN⟩ : ∃ N, N = n + 1 := ⟨_, rfl⟩
  rw [show (n : Int) + 1 = (N : Int) by omega]
  replace hN := mkHid hN
  obtain ⟨w1, hw1⟩ : ∃ w1, w1 = w.setCell ⟨bk, 0, none⟩ (.int .i64 (N : Int)) := ⟨_, rfl⟩
  have hc1 : Chg w w1 (fun g => g = bk) := by rw [hw1]; exact ⟨rfl, rfl, rfl, by simp, fun j _ hj => heap_setCell_other w _ j _ hj⟩
  have k0 : w1.cell? ⟨bk, 0, none⟩ = some (.int .i64 (N : Int)) := by rw [hw1]; exact World.cell?_setCell_same (h := h0) ..
  have k4 : w1.cell? ⟨bk, 2, none⟩ = some (.slice sa es.length sc) := by rw [hw1, World.cell?_setCell_other _ _ _ _ (by simp)]; exact hs
  have kr : Rest bk 2 w w1 := fun i hi _ => by rw [hw1, World.cell?_setCell_other (a := ⟨bk, 0, none⟩) (b := ⟨bk, i, none⟩) (h := fun e => Ne.symm hi (congrArg Addr.off e))]
  have kf : ∀ j, w1.frozen? ⟨bk, j, none⟩ = false := fun j => by rw [hw1, World.frozen?_setCell]; exact hf.out j
  have ko : Own3 base 77 w1 (.slice sa es.length sc) es := hc1.row ho.out fun g hg e => hbk (by rw [hg, e])
  have hsz : w1.heap.size = w.heap.size := by rw [hw1]; simp
  have hol : ∀ g, (Value.slice sa es.length sc).ownBlock = some g → g < w1.heap.size := fun g e => (ko.lt g e).2
  rw [← hw1]
  have hbk1 : bk < w1.heap.size := by omega
  have hnb : ∀ W, AppR (Value.slice sa es.length sc).ownBlock (es.length * 3) (.slice la len lc) (.slice none 0 0) (.int .i64 (N : Int)) w1 W → W.heap[bk]? = w1.heap[bk]? := fun W e => (e.block bk hbk1).resolve_right fun h => hbk h.1
  have g0 : ∀ W, AppR (Value.slice sa es.length sc).ownBlock (es.length * 3) (.slice la len lc) (.slice none 0 0) (.int .i64 (N : Int)) w1 W → W.cell? ⟨bk, 0, none⟩ = some (.int .i64 (N : Int)) := fun W e => (World.cell?_of_block (hnb W e)).trans k0
  have g4 : ∀ W, AppR (Value.slice sa es.length sc).ownBlock (es.length * 3) (.slice la len lc) (.slice none 0 0) (.int .i64 (N : Int)) w1 W → W.cell? ⟨bk, 2, none⟩ = some (.slice sa es.length sc) := fun W e => (World.cell?_of_block (hnb W e)).trans k4
  replace hnb := mkHid hnb
  replace hw1 := mkHid hw1
  replace kr := mkHid kr
  replace kf := mkHid kf
  replace ko := mkHid ko
  replace hc1 := mkHid hc1
  replace hol := mkHid hol
  replace k0 := mkHid k0
  replace k4 := mkHid k4
  clear h0 hs hf0
  apply region_app (Value.slice sa es.length sc).ownBlock (es.length * 3) (.slice la len lc) (.slice none 0 0) (.int .i64 (N : Int))
    [.val _, .val _, .val _, .val _, .val _, .val _, .val _, .val _, .val _, .val _, .val _, .pred (PB w1.heap.size 77 (.slice la len lc) (N : Int)),
     .pred (PA base 77 w1.heap.size (Value.slice sa es.length sc).ownBlock (es ++ [Ent.mk (.slice la len lc) N len])), .val _, .val _] (by kernel_rfl)
    (stable_vals _ (stable_vals _ (stable_vals _ (stable_vals _ (stable_vals _ (stable_vals _ (stable_vals _ (stable_vals _ (stable_vals _ (stable_vals _ (stable_vals _
      ⟨fun W W' v e h => PB.stable hol.out e h, fun W W' v e h => PA.stable (es := es) (e := Ent.mk (.slice la len lc) N len) e h, stable_vals _ (stable_vals _ trivial)⟩)))))))))))
  iterate 11 (refine ⟨fun W hW _ => by go_simp; exact ⟨AppR.refl _, rfl⟩, ?_⟩)
  refine ⟨fun W hW _ => ?pb, fun vb => ?_⟩
  case pb =>
    go_simp
    exact ⟨AppR.of_ext ((Ext.refl _).al _), W.heap.size, rfl, by have := hW.size; omega, heap_alloc_new W _⟩
  refine ⟨fun W hW hF => ?pa, fun va => ?_⟩
  case pa =>
    obtain ⟨b, rfl, hb1, hb2⟩ := hF.1 (by kernel_rfl)
    rw [if_pos (by kernel_rfl)]
    obtain ⟨i0, hi, hz0, hz1, hz2⟩ := info_parts infoHeldNumber
    obtain ⟨v', w', r1, r2, r3, r4⟩ := append_ent (P := Tryz.prog) W base 30 30 77 i0 _ 56 underHeldNumber hi hz0 hz1 hz2 rfl (.slice sa es.length sc) es (ko.out.stable hW) (Ent.mk (.slice la len lc) N len) b hb2 rfl hes (by omega) (by have := hW.size; omega)
    refine givesV_append_ran (vs := .slice sa es.length sc) (vx := .slice (some ⟨b, 0, none⟩) 1 1) (.tmp 15) (.tmp 22) 30 rfl (by simp [Act.eval, Act.put]) (by simp [Act.eval, Act.put]) r1 ⟨r2, r3, ?_⟩
    rcases r4 with h | h
    · exact .inl h
    · exact .inr ⟨_, h, hW.size⟩
  iterate 2 (refine ⟨fun W hW _ => by go_simp; exact ⟨AppR.refl _, rfl⟩, ?_⟩)
  intro W hW hF
  have hp : PA base 77 w1.heap.size (Value.slice sa es.length sc).ownBlock (es ++ [Ent.mk (.slice la len lc) N len]) W va := hF.1 rfl
  clear hF
  have hfin := kept_of (j := 2) (by decide) hbw hbk hc1.out hsz kr.out k0.out k4.out kf.out hW hp
  rw [hN.out] at hfin
  obtain ⟨a', c', hva⟩ := hp.1.shape
  rw [show (es ++ [Ent.mk (.slice la len lc) N len]).length = es.length + 1 by simp] at hva
  have q4 := g4 W hW
  have qf : W.frozen? ⟨bk, 2, none⟩ = false := by rw [World.frozen?_of_block (hnb.out W hW)]; exact kf.out 2
  subst hva
  replace hfin := mkHid hfin
  replace hp := mkHid hp
  replace hW := mkHid hW
  clear g0 g4
  go_simp
  go_wp2_with fail
  go_end0
  exact ⟨rfl, hfin.out⟩
end Go.Proofs.YtbpjggljbkppaaaGreatDoor
