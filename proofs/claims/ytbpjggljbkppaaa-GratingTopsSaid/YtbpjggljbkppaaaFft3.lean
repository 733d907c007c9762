/-
  fft: steps, with what transform hands it.
-/
import Derived.Test.YtbpjggljbkppaaaFft2
import Derived.Deep.AppendLies
namespace Go.Proofs.Ytbpjggljbkppaaa
open Go Go.RowKit Go.Proofs
def bflyL (round frm half k : Nat) (l : List Cx) : Option (List Cx) :=
  (bflyO k round (l.getD (frm + k) (0, 0)) (l.getD (frm + (k + half)) (0, 0))).bind fun pq => some ((l.set (frm + k) pq.1).set (frm + (k + half)) pq.2)
def innerO (round frm half : Nat) : Nat → Nat → List Cx → Option (List Cx)
  | 0, _, l => some l
  | m + 1, k, l => (bflyL round frm half k l).bind fun l' => innerO round frm half m (k + 1) l'
def middleO (round half : Nat) : Nat → Nat → List Cx → Option (List Cx)
  | 0, _, l => some l
  | m + 1, frm, l => (innerO round frm half half 0 l).bind fun l' => middleO round half m (frm + 2 * half) l'
/-- m rounds more, of which the first has halves of h; there are so many elements. -/
def outerO (len : Nat) : Nat → Nat → Nat → List Cx → Option (List Cx)
  | 0, _, _, l => some l
  | m + 1, round, h, l => (middleO round h (len / (2 * h)) 0 l).bind fun l' => outerO len m (round + 1) (2 * h) l'
theorem lt_of_cell {w : World} {a : Addr} {v : Value} (hv : w.cell? a = some v) : a.block < w.heap.size := by
  unfold World.cell? at hv
  split at hv
  · rename_i he
    exact (Array.getElem?_eq_some_iff.1 he).1
  · cases hv
theorem slice_off {a b : Addr} {n c n' c' : Nat} (h : a = b) (hn : n = n') (hc : c = c') : Value.slice (some a) n c = .slice (some b) n' c' := by rw [h, hn, hc]
set_option maxRecDepth 100000 in
set_option maxHeartbeats 3200000 in
theorem steps_c (wy base g len cap n : Nat) (l0 res : List Cx) (w : World) (hl0 : l0.length = len) (hlen : len = 2 ^ n) (hn : n ≤ 16) (hcap : len ≤ cap) (hcap2 : cap ≤ 65536) (hwg : wy ≠ g)
    (hres : outerO len n 1 1 l0 = some res) (hwy : w.cell? ⟨wy, 0, none⟩ = some (.int .i64 (-1))) (ho : w.ownsRow base 41 1 (.slice (some ⟨g, 0, none⟩) len cap) len (cxs l0)) :
    Calls Try.prog 18 #[.slice (some ⟨g, 0, none⟩) len cap, .int .i64 n, .func (.func 19) #[] #[.pointer (some ⟨wy, 0, none⟩)]] w fun e w' =>
      e = .returned (.bool true) ∧ w'.ownsRow base 41 1 (.slice (some ⟨g, 0, none⟩) len cap) len (cxs res) ∧ w.grownBy w' (some g) := by
  replace hl0 := mkHid hl0
  replace ho := mkHid ho
  replace hlen := mkHid hlen
  replace hres := mkHid hres
  replace hwy := mkHid hwy
  go_enter Try.func18, Try.ntmps18
  go_wp2_with fail
  go_loopw [7] (fun r wr => ∃ m round h l, round + m = n + 1 ∧ 1 ≤ round ∧ r = .int .i64 (round : Nat) ∧ h = 2 ^ (round - 1) ∧ l.length = len ∧ outerO len m round h l = some res ∧ wr.cell? ⟨wy, 0, none⟩ = some (.int .i64 (-1)) ∧ wr.ownsRow base 41 1 (.slice (some ⟨g, 0, none⟩) len cap) len (cxs l) ∧ w.grownBy wr (some g)) (fun r _ => (n + 1 - intOf r).toNat)
  case atStart => exact ⟨n, 1, 1, l0, by omega, by omega, rfl, rfl, hl0.out, hres.out, hwy.out, ho.out, World.grownBy.refl _ _⟩
  case round =>
    clear hl0 ho hres hwy
    obtain ⟨m, round, h, l, hrm, hr1, rfl, hh, hl, hre, hwy, ho, hgr⟩ := hrel
    cases m with
    | zero =>
      simp only [outerO, Option.some.injEq] at hre
      subst hre
      obtain rfl : round = n + 1 := by omega
      replace ho := mkHid ho
      replace hgr := mkHid hgr
      replace hl := mkHid hl
      clear hwy hh
      go_wp2_with fail
      go_ret
      exact ⟨rfl, ho.out, hgr.out⟩
    | succ m =>
      simp only [outerO, Option.bind_eq_some_iff] at hre
      obtain ⟨l1, hmi, hou⟩ := hre
      have hpow : h ≤ 32768 := by rw [hh]; exact Nat.pow_le_pow_right (by omega) (show round - 1 ≤ 15 by omega)
      have hpow0 : 0 < h := by rw [hh]; exact Nat.two_pow_pos _
      have hsh : wrap64 (2 ^ (round - 1)) = (h : Int) := by
        have e : (2 : Int) ^ (round - 1) = (h : Int) := by rw [hh]; exact (Int.natCast_pow 2 (round - 1)).symm
        rw [e]
        exact IntWalk.wrap64_in _ ⟨by omega, by omega⟩
      have hrn : round ≤ n := by omega
      obtain ⟨M, hM⟩ : ∃ M, M * (2 * h) = len ∧ M = len / (2 * h) := by
        refine ⟨len / (2 * h), ?_, rfl⟩
        refine Nat.div_mul_cancel ?_
        rw [hlen.out, hh, show 2 * 2 ^ (round - 1) = 2 ^ round by rw [← Nat.pow_succ', show (round - 1).succ = round by omega]]
        exact Nat.pow_dvd_pow 2 hrn
      rw [← hM.2] at hmi
      replace hM := mkHid hM
      replace hh := mkHid hh
      replace hl := mkHid hl
      replace hmi := mkHid hmi
      replace hou := mkHid hou
      replace ho := mkHid ho
      replace hgr := mkHid hgr
      replace hwy := mkHid hwy
      go_wp2_with fail
      rw [hsh]
      clear hsh
      go_loopw [9] (fun f wr => ∃ m frm l, frm + m * (2 * h) = len ∧ f = .int .i64 (frm : Nat) ∧ l.length = len ∧ middleO round h m frm l = some l1 ∧ wr.cell? ⟨wy, 0, none⟩ = some (.int .i64 (-1)) ∧ wr.ownsRow base 41 1 (.slice (some ⟨g, 0, none⟩) len cap) len (cxs l) ∧ w.grownBy wr (some g)) (fun f _ => (len - intOf f).toNat)
      case atStart => exact ⟨M, 0, l, by rw [Nat.zero_add]; exact hM.out.1, rfl, hl.out, hmi.out, hwy.out, ho.out, hgr.out⟩
      case round =>
        clear hl hmi ho hgr hwy
        obtain ⟨mm, frm, l, hfm, rfl, hl, hmi, hwy, ho, hgr⟩ := hrel
        cases mm with
        | zero =>
          simp only [middleO, Option.some.injEq] at hmi
          subst hmi
          obtain rfl : frm = len := by omega
          have hp2 : 2 * h = 2 ^ (round + 1 - 1) := by rw [hh.out, ← Nat.pow_succ', show (round - 1).succ = round + 1 - 1 by omega]
          replace hp2 := mkHid hp2
          replace hfm := mkHid hfm
          replace hl := mkHid hl
          replace ho := mkHid ho
          replace hgr := mkHid hgr
          replace hwy := mkHid hwy
          go_wp2_with fail
          go_roundw
          case rel => exact ⟨m, round + 1, 2 * h, l, by omega, by omega, by go_num, hp2.out, hl.out, hou.out, hwy.out, ho.out, hgr.out⟩
          case measure => simp [intOf] <;> omega
        | succ mm =>
          have hfm2 : frm + 2 * h + mm * (2 * h) = len := by rw [Nat.succ_mul] at hfm; omega
          have hfl : frm + 2 * h ≤ len := by omega
          have hfl3 : frm < len := by omega
          simp only [middleO, Option.bind_eq_some_iff] at hmi
          obtain ⟨l2, hin, hmi⟩ := hmi
          clear hfm
          replace hfm2 := mkHid hfm2
          replace hl := mkHid hl
          replace hin := mkHid hin
          replace hmi := mkHid hmi
          replace ho := mkHid ho
          replace hgr := mkHid hgr
          replace hwy := mkHid hwy
          go_wp2_with fail
          rw [show frm + 2 * h - frm = 2 * h by omega]
          go_loopw [40] (fun i wr => ∃ k l, k ≤ h ∧ i = .int .i64 (k : Nat) ∧ l.length = len ∧ innerO round frm h (h - k) k l = some l2 ∧ wr.cell? ⟨wy, 0, none⟩ = some (.int .i64 (-1)) ∧ wr.ownsRow base 41 1 (.slice (some ⟨g, 0, none⟩) len cap) len (cxs l) ∧ w.grownBy wr (some g)) (fun i _ => (h - intOf i).toNat)
          case atStart => exact ⟨0, l, Nat.zero_le _, rfl, hl.out, hin.out, hwy.out, ho.out, hgr.out⟩
          case round =>
            clear hl hin ho hgr hwy
            obtain ⟨k, l, hk, rfl, hl, hin, hwy, ho, hgr⟩ := hrel
            by_cases hlt : k < h
            · obtain ⟨mk, hmk⟩ : ∃ mk, h - k = mk + 1 := ⟨h - k - 1, by omega⟩
              rw [hmk] at hin
              simp only [innerO, Option.bind_eq_some_iff] at hin
              obtain ⟨l3, hbf, hin⟩ := hin
              simp only [bflyL, Option.bind_eq_some_iff, Option.some.injEq] at hbf
              obtain ⟨⟨p, q⟩, hbf, hl3⟩ := hbf
              have hb2 := fun w' h1 h2 => bfly_c wy base g len cap (frm + k) (frm + (k + h)) k round l _ _ p q w' hl (by omega) (by omega) (by omega) (by omega) (by omega) rfl rfl hbf h1 h2
              have hl3l : l3.length = len := by rw [← hl3]; simp [hl]
              rw [show (l.set (frm + k) p).set (frm + (k + h)) q = l3 from hl3] at hb2
              have hmk2 : mk = h - (k + 1) := by omega
              rw [hmk2] at hin
              have hwy2 : ∀ W, wr.grownBy W (some g) → W.cell? ⟨wy, 0, none⟩ = some (.int .i64 (-1)) := by
                intro W hW
                rw [hW.cell_far _ (lt_of_cell hwy) (fun e => hwg (by simpa using e))]
                exact hwy
              have hwyd : wr.drew.cell? ⟨wy, 0, none⟩ = some (.int .i64 (-1)) := hwy
              clear hmk hmk2 hbf hl3
              replace hb2 := mkHid hb2
              replace hl := mkHid hl
              replace hl3l := mkHid hl3l
              replace hin := mkHid hin
              replace ho := mkHid ho
              replace hgr := mkHid hgr
              replace hwy := mkHid hwy
              replace hwy2 := mkHid hwy2
              have i1 : (0 : Int) ≤ (k : Int) := by omega
              have i2 : (k : Int) < 2 * (h : Int) := by omega
              have i3 : (0 : Int) ≤ (k : Int) + h := by omega
              have i4 : (k : Int) + h < 2 * (h : Int) := by omega
              have i5 : IntKind.i64.wrap ((k : Int) + h) = (k : Int) + h := by rw [IntKind.wrap_i64]; omega
              have i6 : ((k : Int) + h).toNat = k + h := by omega
              go_wp2_with fail
              go_region_with (go_at_call 19; refine (hb2.out _ hwyd (ownsRow_heap rfl ho.out)).mono ?_; rintro e w' ⟨rfl, ho2, hg2⟩; replace ho2 := mkHid ho2; replace hg2 := mkHid hg2)
              go_wp2_with fail
              have hgd : wr.grownBy wr.drew (some g) := ⟨rfl, rfl, rfl, Nat.le_refl _, fun _ _ _ => rfl⟩
              have hg3 := hgd.trans hg2.out
              have hg4 := hgr.out.trans hg3
              have hwy3 := hwy2.out _ hg3
              clear hgd i1 i2 i3 i4 i5 i6
              go_roundw
              case rel => exact ⟨k + 1, l3, by omega, by go_num, hl3l.out, hin.out, hwy3, ho2.out, hg4⟩
              case measure => simp [intOf] <;> omega
            · obtain rfl : k = h := by omega
              rw [Nat.sub_self] at hin
              simp only [innerO, Option.some.injEq] at hin
              subst hin
              replace hl := mkHid hl
              replace ho := mkHid ho
              replace hgr := mkHid hgr
              replace hwy := mkHid hwy
              go_wp2_with fail
              go_roundw
              case rel => exact ⟨mm, frm + 2 * k, l, hfm2.out, by go_num, hl.out, hmi.out, hwy.out, ho.out, hgr.out⟩
              case measure => simp [intOf] <;> omega
end Go.Proofs.Ytbpjggljbkppaaa
