/-
  The Book: keeping a list of complex numbers.
-/
import Derived.Test.YtbpjggljbkppaaaGreatDoorBookC
namespace Go.Proofs.YtbpjggljbkppaaaGreatDoor
open Go Go.RowKit Go.Proofs
theorem infoHeldComplex : (Tryz.prog.info? 70).map (fun i => (i.zero, i.size, i.bytes)) = some (some (.agg #[.slice none 0 0, .slice none 0 0, .int .i64 0]), 3, 56) := by kernel_rfl
theorem underHeldComplex : Tryz.prog.underlying 32 = some (.slice 70) := by kernel_rfl
set_option maxHeartbeats 1600000 in
set_option maxRecDepth 100000 in
theorem keepComplex_c (bk base : Nat) (sa : Option Addr) (sc : Nat) (la : Option Addr) (len lc : Nat) (es : List Ent) (n : Nat) (w : World) (hn : n ≤ 1000000) (hes : es.length ≤ 1000000)
    (h0 : w.cell? ⟨bk, 0, none⟩ = some (.int .i64 n)) (hs : w.cell? ⟨bk, 4, none⟩ = some (.slice sa es.length sc)) (hf : ∀ j, w.frozen? ⟨bk, j, none⟩ = false)
    (ho : Own3 base 70 w (.slice sa es.length sc) es) (hbk : some bk ≠ (Value.slice sa es.length sc).ownBlock) (hbs : base ≤ w.heap.size) :
    Calls Tryz.prog 20 #[.pointer (some ⟨bk, 0, none⟩), .slice la len lc] w fun e w' => e = .returned (.tuple #[]) ∧
      Kept bk 4 base 70 w (.slice sa es.length sc) es (Ent.mk (.slice la len lc) (n + 1) len) w' := by
  have hbw : bk < w.heap.size := World.block_lt_of_cell? w _ h0
  have hf0 := hf 0
  replace hf := mkHid hf
  replace ho := mkHid ho
  go_enter Tryz.func20, Tryz.ntmps20
  go_wp2_with fail
  obtain ⟨N, hN⟩ : ∃ N, N = n + 1 := ⟨_, rfl⟩
  rw [show (n : Int) + 1 = (N : Int) by omega]
  replace hN := mkHid hN
  obtain ⟨w1, hw1⟩ : ∃ w1, w1 = w.setCell ⟨bk, 0, none⟩ (.int .i64 (N : Int)) := ⟨_, rfl⟩
  have hc1 : Chg w w1 (fun g => g = bk) := by rw [hw1]; exact ⟨rfl, rfl, rfl, by simp, fun j _ hj => heap_setCell_other w _ j _ hj⟩
  have k0 : w1.cell? ⟨bk, 0, none⟩ = some (.int .i64 (N : Int)) := by rw [hw1]; exact World.cell?_setCell_same (h := h0) ..
  have k4 : w1.cell? ⟨bk, 4, none⟩ = some (.slice sa es.length sc) := by rw [hw1, World.cell?_setCell_other _ _ _ _ (by simp)]; exact hs
  have kr : Rest bk 4 w w1 := fun i hi _ => by rw [hw1, World.cell?_setCell_other (a := ⟨bk, 0, none⟩) (b := ⟨bk, i, none⟩) (h := fun e => Ne.symm hi (congrArg Addr.off e))]
  have kf : ∀ j, w1.frozen? ⟨bk, j, none⟩ = false := fun j => by rw [hw1, World.frozen?_setCell]; exact hf.out j
  have ko : Own3 base 70 w1 (.slice sa es.length sc) es := hc1.row ho.out fun g hg e => hbk (by rw [hg, e])
  have hsz : w1.heap.size = w.heap.size := by rw [hw1]; simp
  have hol : ∀ g, (Value.slice sa es.length sc).ownBlock = some g → g < w1.heap.size := fun g e => (ko.lt g e).2
  rw [← hw1]
  have hbk1 : bk < w1.heap.size := by omega
  have hnb : ∀ W, AppR (Value.slice sa es.length sc).ownBlock (es.length * 3) (.slice la len lc) (.slice none 0 0) (.int .i64 (N : Int)) w1 W → W.heap[bk]? = w1.heap[bk]? := fun W e => (e.block bk hbk1).resolve_right fun h => hbk h.1
  have g0 : ∀ W, AppR (Value.slice sa es.length sc).ownBlock (es.length * 3) (.slice la len lc) (.slice none 0 0) (.int .i64 (N : Int)) w1 W → W.cell? ⟨bk, 0, none⟩ = some (.int .i64 (N : Int)) := fun W e => (World.cell?_of_block (hnb W e)).trans k0
  have g4 : ∀ W, AppR (Value.slice sa es.length sc).ownBlock (es.length * 3) (.slice la len lc) (.slice none 0 0) (.int .i64 (N : Int)) w1 W → W.cell? ⟨bk, 4, none⟩ = some (.slice sa es.length sc) := fun W e => (World.cell?_of_block (hnb W e)).trans k4
  replace hnb := mkHid hnb
  replace hw1 := mkHid hw1
  replace kr := mkHid kr
  replace kf := mkHid kf
  replace ko := mkHid ko
  replace hc1 := mkHid hc1
  replace hol := mkHid hol
  replace k0 := mkHid k0
  replace k4 := mkHid k4
  clear h0 hs hf0
  apply region_app (Value.slice sa es.length sc).ownBlock (es.length * 3) (.slice la len lc) (.slice none 0 0) (.int .i64 (N : Int))
    [.val _, .val _, .val _, .val _, .val _, .val _, .val _, .val _, .val _, .val _, .val _, .pred (PB w1.heap.size 70 (.slice la len lc) (N : Int)),
     .pred (PA base 70 w1.heap.size (Value.slice sa es.length sc).ownBlock (es ++ [Ent.mk (.slice la len lc) N len])), .val _, .val _] (by kernel_rfl)
    (stable_vals _ (stable_vals _ (stable_vals _ (stable_vals _ (stable_vals _ (stable_vals _ (stable_vals _ (stable_vals _ (stable_vals _ (stable_vals _ (stable_vals _
      ⟨fun W W' v e h => PB.stable hol.out e h, fun W W' v e h => PA.stable (es := es) (e := Ent.mk (.slice la len lc) N len) e h, stable_vals _ (stable_vals _ trivial)⟩)))))))))))
  iterate 11 (refine ⟨fun W hW _ => by go_simp; exact ⟨AppR.refl _, rfl⟩, ?_⟩)
  refine ⟨fun W hW _ => ?pb, fun vb => ?_⟩
  case pb =>
    go_simp
    exact ⟨AppR.of_ext ((Ext.refl _).al _), W.heap.size, rfl, by have := hW.size; omega, heap_alloc_new W _⟩
  refine ⟨fun W hW hF => ?pa, fun va => ?_⟩
  case pa =>
    obtain ⟨b, rfl, hb1, hb2⟩ := hF.1 (by kernel_rfl)
    rw [if_pos (by kernel_rfl)]
    obtain ⟨i0, hi, hz0, hz1, hz2⟩ := info_parts infoHeldComplex
    obtain ⟨v', w', r1, r2, r3, r4⟩ := append_ent (P := Tryz.prog) W base 32 32 70 i0 _ 56 underHeldComplex hi hz0 hz1 hz2 rfl (.slice sa es.length sc) es (ko.out.stable hW) (Ent.mk (.slice la len lc) N len) b hb2 rfl hes (by omega) (by have := hW.size; omega)
    refine givesV_append_ran (vs := .slice sa es.length sc) (vx := .slice (some ⟨b, 0, none⟩) 1 1) (.tmp 15) (.tmp 22) 32 rfl (by simp [Act.eval, Act.put]) (by simp [Act.eval, Act.put]) r1 ⟨r2, r3, ?_⟩
    rcases r4 with h | h
    · exact .inl h
    · exact .inr ⟨_, h, hW.size⟩
  iterate 2 (refine ⟨fun W hW _ => by go_simp; exact ⟨AppR.refl _, rfl⟩, ?_⟩)
  intro W hW hF
  have hp : PA base 70 w1.heap.size (Value.slice sa es.length sc).ownBlock (es ++ [Ent.mk (.slice la len lc) N len]) W va := hF.1 rfl
  clear hF
  have hfin := kept_of (j := 4) (by decide) hbw hbk hc1.out hsz kr.out k0.out k4.out kf.out hW hp
  rw [hN.out] at hfin
  obtain ⟨a', c', hva⟩ := hp.1.shape
  rw [show (es ++ [Ent.mk (.slice la len lc) N len]).length = es.length + 1 by simp] at hva
  have q4 := g4 W hW
  have qf : W.frozen? ⟨bk, 4, none⟩ = false := by rw [World.frozen?_of_block (hnb.out W hW)]; exact kf.out 4
  subst hva
  replace hfin := mkHid hfin
  replace hp := mkHid hp
  replace hW := mkHid hW
  clear g0 g4
  go_simp
  go_wp2_with fail
  go_end0
  exact ⟨rfl, hfin.out⟩
end Go.Proofs.YtbpjggljbkppaaaGreatDoor
