/-
  GratingTops: the law's long way.
-/
import Derived.Test.YtbpjggljbkppaaaTops2
namespace Go.Proofs.Ytbpjggljbkppaaa
open Go Go.RowKit Go.Proofs
theorem inV_row {w : World} {b off : Nat} {l : List Nat} (hc : ∀ j, j < (l.map inV).length → w.cell? ⟨b, off + j, none⟩ = some ((l.map inV).getD j undef)) {k : Nat} (hk : k < l.length) :
    w.cell? ⟨b, off + k, none⟩ = some (.int .i64 (l.getD k 0 : Nat)) := by
  rw [hc k (by simpa using hk)]
  simp [hk, inV]
theorem inV_ne {xs : List Nat} {k : Nat} (h : k < xs.length) : xs.map inV ≠ [] := by
  intro h0
  have := congrArg List.length h0
  simp at this
  subst this
  simp at h
set_option maxRecDepth 100000 in
set_option maxHeartbeats 6400000 in
theorem tops_clean (a : Option Addr) (c n : Nat) (b : Nat) (xs : List Nat) (w : World) (hlen : xs.length = n) (hn : n ≤ 1048576) (hb16 : b < 65536) (hnan : xs.any nanB = false) (h : Row w a (xs.map flV)) :
    Calls Try.prog 3 #[.slice a n c, .int .u16 b] w fun e w' => e = .returned (.bool true) ∧ Ext w w' := by
  have hb := fun w => beyond_new n w 3 (by omega)
  rw [decide_eq_false (by omega)] at hb
  have hp := fun w h => peaks_c a c n xs w hlen (by omega) hnan h
  replace hb := mkHid hb
  replace hp := mkHid hp
  replace hnan := mkHid hnan
  replace hlen := mkHid hlen
  replace h := mkHid h
  go_enter Try.func3, Try.ntmps3
  go_wp2_with fail
  refine (alive_c _).mono ?_
  rintro e w1 ⟨rfl, hE1⟩
  replace hE1 := mkHid hE1
  go_wp2_with fail
  refine (hb.out _).mono ?_
  rintro e w2 ⟨rfl, hE2⟩
  replace hE2 := mkHid hE2
  go_wp2_with fail
  refine (hp.out _ (h.out.ext (hE1.out.trans hE2.out))).mono ?_
  rintro e w3 ⟨kv, rfl, hko, hE3⟩
  obtain ⟨ka, kc, rfl, _, hkr⟩ := row_of_owns hko
  have hE := (hE1.out.trans hE2.out).trans hE3
  have hr := h.out.ext hE
  obtain ⟨bk, off, ha, hc⟩ := hr
  obtain ⟨bk2, off2, ha2, hc2⟩ := hkr
  obtain ⟨L, hL⟩ : ∃ L, L = (tops xs n).length := ⟨_, rfl⟩
  have hLn : L ≤ n := by rw [hL]; exact tops_le xs n
  rw [← hL]
  replace ha := mkHid ha
  replace hc := mkHid hc
  replace ha2 := mkHid ha2
  replace hc2 := mkHid hc2
  replace hE := mkHid hE
  replace hL := mkHid hL
  clear hko hE1 hE2 hE3 h hb hp
  go_wp2_with fail
  go_loopw [7] (fun i wr => ∃ k : Nat, k ≤ n ∧ i = .int .i64 k ∧ w3 = wr) (fun i _ => n - (intOf i).toNat)
  case atStart => exact ⟨0, Nat.zero_le _, rfl, rfl⟩
  case round =>
    obtain ⟨k, hk, rfl, rfl⟩ := hrel
    by_cases hlt : k < n
    · have hl0 := hlen.out
      have h1 := hc.out k (by simp; omega)
      rw [flV_get (by omega)] at h1
      have hA := ha.out (flV_ne (k := k) (by omega))
      have hnx : nanB (xs.getD k 0) = false := by
        have := List.any_eq_false.1 hnan.out xs[k] (List.getElem_mem (by omega))
        simpa [show k < xs.length by omega] using this
      clear hl0
      rw [hA]
      replace hA := mkHid hA
      obtain ⟨x, hx⟩ : ∃ x, x = xs.getD k 0 := ⟨_, rfl⟩
      rw [← hx] at h1 hnx
      replace hx := mkHid hx
      go_wp2_with (go_at_call 7; refine (isNaN_c x _).mono ?_; rintro e w' ⟨rfl, rfl⟩)
      go_roundw
      case rel => exact ⟨k + 1, by omega, by go_num, by simp⟩
      case measure => simp [intOf] <;> omega
    · obtain rfl : n = k := by omega
      clear hlt hk
      by_cases hn0 : n = 0
      · subst hn0
        obtain rfl : L = 0 := by omega
        go_wp2_with fail
        go_ret
        exact ⟨rfl, hE.out⟩
      · have hnz : ((n : Int) == 0) = false := by simpa using hn0
        go_wp2_with fail
        have hA := ha.out (flV_ne (k := 0) (by rw [hlen.out]; omega))
        subst hA
        replace ha := mkHid True.intro
        have hn1 : 0 < n := by omega
        go_loopw [10, 9] (fun i v wr => ∃ k : Nat, k ≤ n ∧ i = .int .i64 k ∧ wr.ownsRow w3.heap.size 31 1 v k ((rots xs b k).map flV) ∧ Ext w3 wr) (fun i _ _ => n - (intOf i).toNat)
        case atStart => exact ⟨0, Nat.zero_le _, rfl, World.ownsRow_nil _ _ _ _, Ext.refl _⟩
        case round =>
          obtain ⟨k, hk, rfl, ho, hE2⟩ := hrel
          by_cases hlt : k < n
          · obtain ⟨j1, hj1⟩ : ∃ j1, j1 = (k + b) % n := ⟨_, rfl⟩
            have l1 : j1 < n := by rw [hj1]; exact Nat.mod_lt _ (by omega)
            have hl0 := hlen.out
            have h1 := hE2.cell ((hc.out j1 (by simp; omega)).trans (by rw [flV_get (by omega)]))
            clear hl0
            have t1 : ((k : Int) + b) % n = j1 := by rw [hj1, show (k : Int) + b = ((k + b : Nat) : Int) by omega]; exact (Int.natCast_emod _ _).symm
            have hnx := rots_next xs b k
            rw [show rot xs b k = xs.getD j1 0 by unfold rot; rw [hlen.out, hj1]] at hnx
            generalize xs.getD j1 0 = x at h1 hnx
            obtain ⟨i0, hi, hz0, hz1, hz2⟩ := info_parts infoFl
            have hal : (wr.alloc (.cells #[.float .f64 x] 31)).ownsRow w3.heap.size 31 1 u9 k ((rots xs b k).map flV) := World.ownsRow.alloc (w := wr) ho _
            obtain ⟨v', w', happ, hown, hgr⟩ := append_one (P := Try.prog) (wr.alloc (.cells #[.float .f64 x] 31)) w3.heap.size 22 22 31 i0 _ 1 8 underFl hi hz0 hz1 hz2 rfl (by omega) u9 _ _ hal ⟨wr.heap.size, 0, none⟩ 1 1 [.float .f64 x] rfl
              (new_cell wr (.float .f64 x) _)
              (by intro u hu; simp at hu; subst hu; rfl) (by unfold maxLen; omega) (by omega) (by have := hE2.size; simp; omega) (by omega)
            have hE3 : Ext w3 w' := by
              have e1 : Ext w3 (wr.alloc (.cells #[.float .f64 x] 31)) := hE2.al _
              rcases hgr with ⟨g, cap, rfl, _, h⟩ | ⟨_, h⟩
              · have := (ho.lt g rfl).1
                exact e1.trans_grown h (fun k' hk' => by cases hk'; exact this)
              · exact e1.trans_grown h (fun k' hk' => by cases hk')
            have hown2 : w'.ownsRow w3.heap.size 31 1 v' (k + 1) ((rots xs b (k + 1)).map flV) := by
              rw [hnx]
              simpa [flV] using hown
            replace happ := mkHid happ
            replace hE3 := mkHid hE3
            replace hown2 := mkHid hown2
            replace ho := mkHid ho
            replace hE2 := mkHid hE2
            replace hj1 := mkHid hj1
            replace hnx := mkHid hnx
            clear hown hgr hal hi hz0 hz1 hz2
            go_wp2_with (at_builtin; refine wpList_append_ran rfl (.tmp 72) (.tmp 82) 22 rfl rfl rfl happ.out ?_)
            go_roundw
            case rel => exact ⟨k + 1, by omega, by go_num, hown2.out, hE3.out⟩
            case measure => simp [intOf] <;> omega
          · obtain rfl : n = k := by omega
            obtain ⟨ma, mc, rfl, _, hmr⟩ := row_of_owns ho
            have hxl := hlen.out
            have hpk := peaks_c ma mc n (rots xs b n) wr (rots_length _ _ _) (by omega) (by have := rots_clean hnan.out b (by omega); rw [hxl] at this; exact this) hmr
            have hll : (tops (rots xs b n) n).length = L := by have := tops_rots_length xs b; rw [hxl] at this; rw [this, ← hL.out]
            rw [hll] at hpk
            clear hxl ho hmr
            replace hpk := mkHid hpk
            replace hll := mkHid hll
            replace hE2 := mkHid hE2
            go_wp2_with fail
            refine hpk.out.mono ?_
            rintro e w4 ⟨jv, rfl, hjo, hE4⟩
            obtain ⟨ja, jc, rfl, _, hjr⟩ := row_of_owns hjo
            have hE5 := mkHid (hE2.out.trans hE4)
            clear hjo hE4 hE2 hpk
            replace hjr := mkHid hjr
            have hLL : ((L : Int) != (L : Int)) = false := by simp
            go_wp2_with fail
            go_loopw [14, 13] (fun i at' wr => ∃ k : Nat, k ≤ n ∧ i = .int .i64 k ∧ at' = .int .i64 ((tops xs k).length : Nat) ∧ Drw w4 wr) (fun i _ _ => n - (intOf i).toNat)
            case atStart => exact ⟨0, Nat.zero_le _, rfl, rfl, Drw.refl _⟩
            case round =>
              clear hlt hk hLL
              obtain ⟨k, hk, rfl, rfl, hD⟩ := hrel
              by_cases hlt : k < n
              · have hl0 := hlen.out
                have hEw := hE5.out.trans hD.ext
                obtain ⟨j1, hj1⟩ : ∃ j1, j1 = (k + n - 1) % n := ⟨_, rfl⟩
                obtain ⟨j2, hj2⟩ : ∃ j2, j2 = (k + 1) % n := ⟨_, rfl⟩
                have l1 : j1 < n := by rw [hj1]; exact Nat.mod_lt _ (by omega)
                have l2 : j2 < n := by rw [hj2]; exact Nat.mod_lt _ (by omega)
                have h0 := hEw.cell ((hc.out k (by simp; omega)).trans (by rw [flV_get (by omega)]))
                have h1 := hEw.cell ((hc.out j1 (by simp; omega)).trans (by rw [flV_get (by omega)]))
                have h2 := hEw.cell ((hc.out j2 (by simp; omega)).trans (by rw [flV_get (by omega)]))
                obtain ⟨A, hA⟩ : ∃ A, A = (tops xs k).length := ⟨_, rfl⟩
                have hAk : A ≤ k := by rw [hA]; exact tops_le xs k
                have hkcell : A < L → wr.cell? ⟨bk2, off2 + A, none⟩ = some (.int .i64 ((tops xs n).getD A 0 : Nat)) := fun h => hEw.cell (inV_row hc2.out (by rw [← hL.out]; exact h))
                have hka : A < L → ka = some ⟨bk2, off2, none⟩ := fun h => ha2.out (inV_ne (k := A) (by rw [← hL.out]; exact h))
                have hnot : topB xs k = false → A < L → (tops xs n).getD A 0 ≠ k := fun ht h => by rw [hA]; exact tops_not xs k n hlt ht (by rw [← hA, ← hL.out]; exact h)
                have hyes : topB xs k = true → A < L ∧ (tops xs n).getD A 0 = k := fun ht => by have := tops_at xs k n hlt ht; rw [← hA, ← hL.out] at this; exact this
                rw [← hA]
                clear hl0 hEw
                have w1' : IntKind.i64.wrap ((k : Int) + n) = (k : Int) + n := by rw [IntKind.wrap_i64]; omega
                have w2' : IntKind.i64.wrap ((k : Int) + n - 1) = (k : Int) + n - 1 := by rw [IntKind.wrap_i64]; omega
                have w3' : IntKind.i64.wrap ((k : Int) + 1) = (k : Int) + 1 := by rw [IntKind.wrap_i64]; omega
                have t1 : Int.tmod ((k : Int) + n - 1) n = j1 := by rw [Int.tmod_eq_emod_of_nonneg (by omega), hj1, show (k : Int) + n - 1 = ((k + n - 1 : Nat) : Int) by omega]; exact (Int.natCast_emod _ _).symm
                have t2 : Int.tmod ((k : Int) + 1) n = j2 := by rw [Int.tmod_eq_emod_of_nonneg (by omega), hj2, show (k : Int) + 1 = ((k + 1 : Nat) : Int) by omega]; exact (Int.natCast_emod _ _).symm
                have w4' : IntKind.i64.wrap (j1 : Int) = j1 := by rw [IntKind.wrap_i64]; omega
                have w5' : IntKind.i64.wrap (j2 : Int) = j2 := by rw [IntKind.wrap_i64]; omega
                have n0 : n ≠ 0 := by omega
                replace hj1 := mkHid hj1
                replace hj2 := mkHid hj2
                obtain ⟨x0, hx0⟩ : ∃ x, x = xs.getD k 0 := ⟨_, rfl⟩
                obtain ⟨x1, hx1⟩ : ∃ x, x = xs.getD j1 0 := ⟨_, rfl⟩
                obtain ⟨x2, hx2⟩ : ∃ x, x = xs.getD j2 0 := ⟨_, rfl⟩
                rw [← hx0] at h0
                rw [← hx1] at h1
                rw [← hx2] at h2
                replace hx0 := mkHid hx0
                replace hx1 := mkHid hx1
                replace hx2 := mkHid hx2
                have htop : topB xs k = (gtF x0 x1 && gtF x0 x2) := by
                  unfold topB
                  rw [hlen.out, ← hj1.out, ← hj2.out, ← hx0.out, ← hx1.out, ← hx2.out]
                have hnx := congrArg List.length (tops_next xs k)
                rw [htop] at hnx hnot hyes
                have hDrw : ∀ nq, (wr.drewN nq).cell? ⟨bk2, off2 + A, none⟩ = wr.cell? ⟨bk2, off2 + A, none⟩ := fun _ => rfl
                replace hnx := mkHid hnx
                replace hA := mkHid hA
                replace hD := mkHid hD
                replace hDrw := hDrw
                clear htop
                cases hg1 : gtF x0 x1 with
                | false =>
                  rw [hg1] at hnx hnot
                  replace hnot := hnot rfl
                  clear hyes
                  unfold gtF at hg1
                  by_cases hAL : A < L
                  · have hne := hnot hAL
                    have hkc := hkcell hAL
                    have hAn := hka hAL
                    rw [hAn]
                    obtain ⟨y, hy⟩ : ∃ y, y = (tops xs n).getD A 0 := ⟨_, rfl⟩
                    rw [← hy] at hkc hne
                    have hne2 : ((y : Int) == (k : Int)) = false := by rw [beq_eq_false_iff_ne]; omega
                    replace hy := mkHid hy
                    replace hne := mkHid hne
                    replace hAn := mkHid hAn
                    clear hkcell hka hnot
                    go_wp2_with fail
                    go_quiet (fail)
                    have hkc2 := fun nq => (hDrw nq).trans hkc
                    go_wp2_with fail
                    go_roundw
                    case rel => exact ⟨k + 1, by omega, by go_num, by rw [hnx.out]; simp [hA.out], Drw.trans hD.out ⟨_, rfl⟩⟩
                    case measure => simp [intOf] <;> omega
                  · have hAL2 : L ≤ A := by omega
                    clear hkcell hka hnot
                    go_wp2_with fail
                    go_quiet (fail)
                    go_wp2_with fail
                    go_roundw
                    case rel => exact ⟨k + 1, by omega, by go_num, by rw [hnx.out]; simp [hA.out], Drw.trans hD.out ⟨_, rfl⟩⟩
                    case measure => simp [intOf] <;> omega
                | true =>
                  cases hg2 : gtF x0 x2 with
                  | false =>
                    rw [hg1, hg2] at hnx hnot
                    replace hnot := hnot rfl
                    clear hyes
                    unfold gtF at hg1 hg2
                    by_cases hAL : A < L
                    · have hne := hnot hAL
                      have hkc := hkcell hAL
                      have hAn := hka hAL
                      rw [hAn]
                      obtain ⟨y, hy⟩ : ∃ y, y = (tops xs n).getD A 0 := ⟨_, rfl⟩
                      rw [← hy] at hkc hne
                      have hne2 : ((y : Int) == (k : Int)) = false := by rw [beq_eq_false_iff_ne]; omega
                      replace hy := mkHid hy
                      replace hne := mkHid hne
                      replace hAn := mkHid hAn
                      clear hkcell hka hnot
                      go_wp2_with fail
                      go_quiet (fail)
                      have hkc2 := fun nq => (hDrw nq).trans hkc
                      go_wp2_with fail
                      go_roundw
                      case rel => exact ⟨k + 1, by omega, by go_num, by rw [hnx.out]; simp [hA.out], Drw.trans hD.out ⟨_, rfl⟩⟩
                      case measure => simp [intOf] <;> omega
                    · have hAL2 : L ≤ A := by omega
                      clear hkcell hka hnot
                      go_wp2_with fail
                      go_quiet (fail)
                      go_wp2_with fail
                      go_roundw
                      case rel => exact ⟨k + 1, by omega, by go_num, by rw [hnx.out]; simp [hA.out], Drw.trans hD.out ⟨_, rfl⟩⟩
                      case measure => simp [intOf] <;> omega
                  | true =>
                    rw [hg1, hg2] at hnx hyes
                    obtain ⟨hAL, hyk⟩ := hyes rfl
                    have hkc := hkcell hAL
                    have hAn := hka hAL
                    rw [hyk] at hkc
                    rw [hAn]
                    have hne2 : ((k : Int) == (k : Int)) = true := by simp
                    replace hAn := mkHid hAn
                    replace hyk := mkHid hyk
                    clear hnot hkcell hka
                    unfold gtF at hg1 hg2
                    go_wp2_with fail
                    go_quiet (fail)
                    have hkc2 := fun nq => (hDrw nq).trans hkc
                    go_wp2_with fail
                    go_roundw
                    case rel => exact ⟨k + 1, by omega, by go_num, by rw [hnx.out]; simp [hA.out], Drw.trans hD.out ⟨_, rfl⟩⟩
                    case measure => simp [intOf] <;> omega
              · obtain rfl : n = k := by omega
                rw [← hL.out]
                have hmk := fun w => makeBools n w hn
                have hst := fun w1 : World => owns_new w1 4 (bools (List.replicate n false)) (by simp [bools]; omega) n (by simp [bools]) hn1
                generalize (bools (List.replicate n false)).toArray = arr at hmk hst
                rw [show List.replicate n false = fdL xs b 0 by rw [← hlen.out]; rfl] at hst
                replace hst := mkHid hst
                have hE6 := mkHid (hE5.out.trans hD.ext)
                replace hjr := mkHid (hjr.out.ext hD.ext)
                clear hlt hk
                replace hD := mkHid hD
                go_wp2_with fail
                obtain ⟨wo, rfl⟩ : ∃ wo : World, wo = wr := ⟨_, rfl⟩
                obtain ⟨bk3, off3, ha3, hc3⟩ := hjr.out
                replace ha3 := mkHid ha3
                replace hc3 := mkHid hc3
                clear hmk
                go_loopw [17] (fun i wr => ∃ q : Nat, q ≤ L ∧ i = .int .i64 q ∧ wr.ownsRow wo.heap.size 4 1 (.slice (some ⟨wo.heap.size, 0, none⟩) n n) n (bools (fdL xs b q)) ∧ Ext wo wr) (fun i _ => L - (intOf i).toNat)
                case atStart => exact ⟨0, Nat.zero_le _, rfl, hst.out wo, (Ext.refl _).al _⟩
                case round =>
                  clear hst
                  obtain ⟨q, hq, rfl, ho, hE7⟩ := hrel
                  by_cases hltq : q < L
                  · have hA := ha3.out (inV_ne (k := q) (by rw [hll.out]; exact hltq))
                    have h1 := hE7.cell (inV_row hc3.out (k := q) (by rw [hll.out]; exact hltq))
                    have hyl := tops_lt (xs := rots xs b n) (k := n) q (by rw [hll.out]; exact hltq)
                    have hnx : fdL xs b (q + 1) = (fdL xs b q).set (((tops (rots xs b n) n).getD q 0 + b) % n) true := by
                      show (fdL xs b q).set (cameAt xs b q) true = _
                      unfold cameAt
                      rw [hlen.out]
                    obtain ⟨y, hy⟩ : ∃ y, y = (tops (rots xs b n) n).getD q 0 := ⟨_, rfl⟩
                    rw [← hy] at h1 hyl hnx
                    obtain ⟨j1, hj1⟩ : ∃ j1, j1 = (y + b) % n := ⟨_, rfl⟩
                    have l1 : j1 < n := by rw [hj1]; exact Nat.mod_lt _ (by omega)
                    have t1 : ((y : Int) + b) % n = j1 := by rw [hj1, show (y : Int) + b = ((y + b : Nat) : Int) by omega]; exact (Int.natCast_emod _ _).symm
                    rw [← hj1] at hnx
                    rw [hA]
                    obtain ⟨hs1, hs2⟩ := ho.stored j1 (.bool true)
                    rw [bools_set, ← hnx] at hs1
                    obtain ⟨old, hc0⟩ := owns_cell ho l1
                    have hfz := ho.frozenAt j1
                    have hE8 := hE7.gr hs2 (fun k e => by cases e; exact Nat.le_refl _)
                    replace hs1 := mkHid hs1
                    replace hE8 := mkHid hE8
                    replace hA := mkHid hA
                    replace hy := mkHid hy
                    replace hj1 := mkHid hj1
                    replace hnx := mkHid hnx
                    replace ho := mkHid ho
                    replace hE7 := mkHid hE7
                    clear hs2
                    go_wp2_with fail
                    go_roundw
                    case rel => exact ⟨q + 1, by omega, by go_num, hs1.out, hE8.out⟩
                    case measure => simp [intOf] <;> omega
                  · obtain rfl : L = q := by omega
                    clear hltq hq
                    obtain ⟨wq, rfl⟩ : ∃ wq : World, wq = wr := ⟨_, rfl⟩
                    have hfd := fun a h => fdL_all xs b a h
                    rw [hlen.out, hll.out] at hfd
                    have hfl := fdL_length xs b L
                    rw [hlen.out] at hfl
                    replace hE7 := mkHid hE7
                    replace ho := mkHid ho
                    replace hfd := mkHid hfd
                    replace hfl := mkHid hfl
                    go_wp2_with fail
                    go_loopw [18] (fun i wr => ∃ q : Nat, q ≤ L ∧ i = .int .i64 q ∧ wq = wr) (fun i _ => L - (intOf i).toNat)
                    case atStart => exact ⟨0, Nat.zero_le _, rfl, rfl⟩
                    case round =>
                      obtain ⟨q, hq, rfl, rfl⟩ := hrel
                      by_cases hltq : q < L
                      · have hA := ha2.out (inV_ne (k := q) (by rw [← hL.out]; exact hltq))
                        have h1 := hE7.out.cell (hE6.out.cell (inV_row hc2.out (k := q) (by rw [← hL.out]; exact hltq)))
                        have hyl := tops_lt (xs := xs) (k := n) q (by rw [← hL.out]; exact hltq)
                        have hmem : (tops xs n).getD q 0 ∈ tops xs n := by
                          have hq' : q < (tops xs n).length := by rw [← hL.out]; exact hltq
                          rw [show (tops xs n).getD q 0 = (tops xs n)[q] by simp [hq']]
                          exact List.getElem_mem hq'
                        have htrue := hfd.out _ hmem
                        generalize (tops xs n).getD q 0 = y at h1 hyl htrue
                        have h2 : wq.cell? ⟨wo.heap.size, y, none⟩ = some (.bool true) := by
                          rw [ho.out.cellAt y (by omega)]
                          have : y < (fdL xs b L).length := by rw [hfl.out]; exact hyl
                          simp [bools, this] at htrue ⊢
                          exact htrue
                        clear hmem htrue
                        rw [hA]
                        replace hA := mkHid hA
                        go_wp2_with fail
                        go_roundw
                        case rel => exact ⟨q + 1, by omega, by go_num, by simp⟩
                        case measure => simp [intOf] <;> omega
                      · obtain rfl : L = q := by omega
                        go_wp2_with fail
                        go_ret
                        exact ⟨by simp, (hE.out.trans hE6.out).trans hE7.out⟩
end Go.Proofs.Ytbpjggljbkppaaa
