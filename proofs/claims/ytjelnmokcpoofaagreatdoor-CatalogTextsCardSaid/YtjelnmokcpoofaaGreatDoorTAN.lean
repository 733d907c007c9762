/-
  polestarref01.Read: the number of a text, or none. polestarref01.Digits: the text of a whole number. polestarref02.Digits: the text of a fraction.
-/
import Derived.Test.YtjelnmokcpoofaaGreatDoorTAM
import Derived.Test.YtjelnmokcpoofaaGreatDoorTAI
import Derived.Test.YtjelnmokcpoofaaGreatDoorTAJ
import Derived.Test.YtjelnmokcpoofaaGreatDoorTAE
import Derived.Test.YtjelnmokcpoofaaGreatDoorTAG
import Derived.Laws.IdiomStrings
namespace Go.Proofs.YtjelnmokcpoofaaGreatDoor
set_option maxRecDepth 100000
open Go Go.RowKit Go.Proofs
def RRQ (w : World) (o : Option Int) (e : Ending) (w' : World) : Prop :=
 ∃ v b x, e = .returned (.tuple #[v, .bool b]) ∧ (o = some x ∧ b = true ∨ o = none ∧ b = false ∧ x = 0) ∧ IntR w' v x ∧ Ext w w'
def RkA (ds : List UInt8) (w1 : World) (t6 : Value) (wr : World) : Prop :=
 ∃ k : Nat, k ≤ ds.length ∧ t6 = .int .i64 k ∧ (Lib.decFrom 0 (ds.take k)).isSome = true ∧ Ext w1 wr
def RkB (ds : List UInt8) (w1 : World) (t7 t8 : Value) (wr : World) : Prop :=
 ∃ j m : Nat, j ≤ ds.length ∧ t8 = .int .i64 j ∧ Lib.decFrom 0 (ds.take j) = some m ∧ MagR wr t7 (lim m) ∧ Ext w1 wr
def RkC (ds : List UInt8) (j : Nat) (w3 : World) (t8 t9 t10 t11 : Value) (wr : World) : Prop :=
 ∃ k P F : Nat, k ≤ 9 ∧ j + k ≤ ds.length ∧ t11 = .int .i64 k ∧ t8 = .int .i64 ((j + k : Nat) : Int) ∧ t9 = .int .u32 (P : Int) ∧ t10 = .int .u32 (F : Int) ∧ F = 10 ^ k ∧ Lib.decFrom 0 ((ds.drop j).take k) = some P ∧ Ext w3 wr
theorem byte_at {D : ByteArray} {l : List UInt8} (h : D.data.toList = l) {k : Nat} (hk : k < D.size) (hl : k < l.length) : l[k] = D[k] := by
 subst h
 rfl
theorem dec_snoc {x : List UInt8} {c : UInt8} {P : Nat} (h : Lib.decFrom 0 x = some P) (h1 : 48 ≤ c.toNat) (h2 : c.toNat ≤ 57) : Lib.decFrom 0 (x ++ [c]) = some (P * 10 + (c.toNat - 48)) := by
 rw [decFrom_app x [c] 0 P h]
 have hd : Lib.digitVal c = some (c.toNat - 48) := by unfold Lib.digitVal; rw [if_pos ⟨h1, h2⟩]
 unfold Lib.decFrom
 rw [hd]
 rfl
theorem dec_bad {l : List UInt8} {k : Nat} (hk : k < l.length) (h : ¬ (48 ≤ l[k].toNat ∧ l[k].toNat ≤ 57)) : Lib.decFrom 0 l = none := by
 cases hN : Lib.decFrom 0 l with
 | none => rfl
 | some N =>
  have hall : (l.all fun b => (Lib.digitVal b).isSome) = true := by rw [← decFrom_some l 0, hN]; rfl
  have := List.all_eq_true.1 hall l[k] (List.getElem_mem hk)
  unfold Lib.digitVal at this
  rw [if_neg h] at this
  cases this
theorem dec_smallK {l : List UInt8} {m k : Nat} (h : Lib.decFrom 0 l = some m) (hk : l.length ≤ k) : (lim m).length ≤ k := by
 have h1 : m < 10 ^ l.length := by
  obtain ⟨_, p, _, h2, h3, _⟩ := decFrom_split l m 0 l.length h (by omega)
  rw [List.drop_zero, List.take_length, h] at h2
  rw [Option.some.inj h2]
  exact h3
 refine nT (lim_length_le (k := l.length) ?_) hk
 exact Nat.lt_of_lt_of_le h1 (Nat.pow_le_pow_left (by omega) _)
theorem readI_parts (s : List UInt8) : (badI s = true → readI s = none) ∧ (badI s = false → (Lib.decFrom 0 (bodyI s) = none → readI s = none) ∧ ∀ N, Lib.decFrom 0 (bodyI s) = some N → readI s = some (sg (negI s) N)) := by
 unfold readI
 refine ⟨fun h => by rw [if_pos h], fun h => ?_⟩
 rw [if_neg (by rw [h]; decide)]
 exact ⟨fun h => by rw [h]; rfl, fun N h => by rw [h]; rfl⟩
set_option maxHeartbeats 6400000 in
theorem rread_c (s : ByteArray) (w : World) (hs : s.size ≤ 65536) : Calls Tryz.prog 79 #[.string s] w (RRQ w (readI s.data.toList)) := by
 obtain ⟨w1, hw1⟩ : ∃ w1, w1 = w.alloc (.cells #[.bool false, .slice none 0 0] 50) := ⟨_, rfl⟩
 have hE1 := mK (show Ext w w1 by rw [hw1]; exact (xR w).al _)
 have z1 := mK (show w1.heap[w.heap.size]? = some (.cells #[.bool false, .slice none 0 0] 50 (0, 0)) by rw [hw1]; exact heap_alloc_new _ _)
 have hsz1 : w1.heap.size = w.heap.size + 1 := by rw [hw1]; simp
 replace hw1 := mK hw1
 obtain ⟨P1, P2⟩ := readI_parts s.data.toList
 obtain ⟨R, hR⟩ : ∃ R, R = readI s.data.toList := ⟨_, rfl⟩
 rw [← hR] at P1 P2 ⊢
 have hsl : s.data.toList.length = s.size := Array.length_toList
 by_cases hs0 : s.size = 0
 ·have hb : badI s.data.toList = true := by
   have e : s.data.toList = [] := List.eq_nil_of_length_eq_zero (by omega)
   rw [e]; rfl
  have hnone := mK (P1 hb)
  clear P1 P2 hR hsl hb
  go_enter Tryz.func79, Tryz.ntmps79
  have tok : Tok 0 := .mk _
  go_wp2_with (replace tok : Tok 1 := nxT 0 tok; rw [← hw1.out]; refine wpList_store_row rfl 50 (.tmp 2) (.tmp 40) rfl w.heap.size #[.bool false, .slice none 0 0] rfl rfl 50 _ z1.out (by kernel_rfl) rfl (by kernel_rfl) ?_)
  refine bodyPost_ret (results_row_tmp rfl _ _ w.heap.size 50 #[.bool false, .slice none 0 0] _ _ rfl rfl (setRow_heap _ _ _ _ _ _ z1.out) Tryz.underlying50 rfl (by kernel_rfl)) rfl ?_
  exact ⟨_, _, 0, rfl, .inr ⟨hnone.out, rfl, rfl⟩, (zeroO _ w.heap.size).r, hE1.out.row (nR _) _⟩
 ·have k0 : 0 < s.size := by omega
  have hh := first_byte (D := s) rfl k0
  have q0 : ((s.size : Int) == 0) = false := by rw [beq_eq_false_iff_ne]; omega
  have q1 : (s.size == 0) = false := by rw [beq_eq_false_iff_ne]; omega
  by_cases h45 : s[0] = 45
  ·have e45 : (s[0].toNat == 45) = true := by rw [h45]; rfl
   have e45' : ((s[0].toNat : Int) == 45) = true := by rw [h45]; rfl
   obtain ⟨D, hD⟩ : ∃ D, D = s.extract 1 s.size := ⟨_, rfl⟩
   have hDs : D.size = s.size - 1 := by rw [hD, ByteArray.size_extract]; omega
   obtain ⟨ds, hds⟩ : ∃ ds, ds = s.data.toList.drop 1 := ⟨_, rfl⟩
   have hDl : D.data.toList = ds := by rw [hD, ext_tail, hds]
   have hbody : bodyI s.data.toList = ds := by unfold bodyI; rw [if_pos (by rw [hh, h45]), hds, List.drop_one]
   have hneg : negI s.data.toList = true := by unfold negI; rw [hh, h45]; rfl
   have hbad : badI s.data.toList = (decide (ds = []) || decide (ds.head? = some 48)) := by
    unfold badI
    rw [hbody, hneg]
    simp
   rw [hbody, hneg] at P2
   rw [hbad] at P1 P2
   replace hsl : ds.length = D.size := by rw [hds, List.length_drop]; omega
   have hDb : D.size ≤ 65536 := by omega
   have hX : s.extract 1 s.size = D := hD.symm
   have k1 : (1 : Int) ≤ s.size := by omega
   clear hbad hneg hbody hR hds hD hh h45 hDs
   by_cases hd0 : D.size = 0
   ·have hnone := mK (P1 (by rw [List.eq_nil_of_length_eq_zero (show ds.length = 0 by omega)]; rfl))
    clear P1 P2 hDl hsl
    go_enter Tryz.func79, Tryz.ntmps79
    have tok : Tok 0 := .mk _
    go_wp2_with (replace tok : Tok 1 := nxT 0 tok; rw [← hw1.out]; refine wpList_store_row rfl 50 (.tmp 2) (.tmp 40) rfl w.heap.size #[.bool false, .slice none 0 0] rfl rfl 50 _ z1.out (by kernel_rfl) rfl (by kernel_rfl) ?_)
    refine bodyPost_ret (results_row_tmp rfl _ _ w.heap.size 50 #[.bool false, .slice none 0 0] _ _ rfl rfl (setRow_heap _ _ _ _ _ _ z1.out) Tryz.underlying50 rfl (by kernel_rfl)) rfl ?_
    exact ⟨_, _, 0, rfl, .inr ⟨hnone.out, rfl, rfl⟩, (zeroO _ w.heap.size).r, hE1.out.row (nR _) _⟩
   ·have kd : 0 < D.size := by omega
    have hh := first_byte hDl kd
    have r0 : ((D.size : Int) == 0) = false := by rw [beq_eq_false_iff_ne]; omega
    have r1 : (D.size == 0) = false := by rw [beq_eq_false_iff_ne]; omega
    replace hDl := mK hDl
    rw [hh] at P1 P2
    by_cases h48 : D[0] = 48
    ·have g1 : (D[0].toNat == 48) = true := by rw [h48]; rfl
     have g2 : ((D[0].toNat : Int) == 48) = true := by rw [h48]; rfl
     have hnone := mK (P1 (by simp [h48]))
     clear P1 P2 hDl h48 hh
     by_cases hq : 1 < D.size
     ·go_enter Tryz.func79, Tryz.ntmps79
      have tok : Tok 0 := .mk _
      go_wp2_with (replace tok : Tok 1 := nxT 0 tok; rw [← hw1.out]; refine wpList_store_row rfl 50 (.tmp 2) (.tmp 40) rfl w.heap.size #[.bool false, .slice none 0 0] rfl rfl 50 _ z1.out (by kernel_rfl) rfl (by kernel_rfl) ?_)
      refine bodyPost_ret (results_row_tmp rfl _ _ w.heap.size 50 #[.bool false, .slice none 0 0] _ _ rfl rfl (setRow_heap _ _ _ _ _ _ z1.out) Tryz.underlying50 rfl (by kernel_rfl)) rfl ?_
      exact ⟨_, _, 0, rfl, .inr ⟨hnone.out, rfl, rfl⟩, (zeroO _ w.heap.size).r, hE1.out.row (nR _) _⟩
     ·go_enter Tryz.func79, Tryz.ntmps79
      have tok : Tok 0 := .mk _
      go_wp2_with (replace tok : Tok 1 := nxT 0 tok; rw [← hw1.out]; refine wpList_store_row rfl 50 (.tmp 2) (.tmp 40) rfl w.heap.size #[.bool false, .slice none 0 0] rfl rfl 50 _ z1.out (by kernel_rfl) rfl (by kernel_rfl) ?_)
      refine bodyPost_ret (results_row_tmp rfl _ _ w.heap.size 50 #[.bool false, .slice none 0 0] _ _ rfl rfl (setRow_heap _ _ _ _ _ _ z1.out) Tryz.underlying50 rfl (by kernel_rfl)) rfl ?_
      exact ⟨_, _, 0, rfl, .inr ⟨hnone.out, rfl, rfl⟩, (zeroO _ w.heap.size).r, hE1.out.row (nR _) _⟩
    ·have g1 : (D[0].toNat == 48) = false := by
      cases hb : D[0].toNat == 48 with
      | false => rfl
      | true => exact absurd (UInt8.toNat_inj.1 (show D[0].toNat = (48 : UInt8).toNat from eq_of_beq hb)) h48
     have g2 : ((D[0].toNat : Int) == 48) = false := by
      cases hb : (D[0].toNat : Int) == 48 with
      | false => rfl
      | true => have := eq_of_beq hb; exact absurd (UInt8.toNat_inj.1 (show D[0].toNat = (48 : UInt8).toNat from by rw [show (48 : UInt8).toNat = 48 from rfl]; omega)) h48
     have hnn : ds ≠ [] := fun e => by rw [e] at hsl; simp at hsl; omega
     obtain ⟨Q0, Q1⟩ := P2 (by simp [h48, hnn])
     have hR0 := mK Q0
     have hR1 := mK Q1
     clear P1 P2 h48 Q0 Q1 hh hnn
     go_enter Tryz.func79, Tryz.ntmps79
     go_wp2_with fail
     rw [← hw1.out]
     have st : RkA ds w1 (.int .i64 0) w1 := ⟨0, Nat.zero_le _, rfl, rfl, xR _⟩
     replace st := mK st
     go_loopw [6] (fun t6 wr => RkA ds w1 t6 wr) (fun t6 _ => ds.length - (intOf t6).toNat)
     case atStart => exact st.out
     case round =>
      clear st
      obtain ⟨k, hk, rfl, hdk, hEr⟩ := hrel
      obtain ⟨w2, rfl⟩ : ∃ w2 : World, w2 = wr := ⟨_, rfl⟩
      have z2 := mK (hEr.blk z1.out)
      replace hEr := mK hEr
      by_cases hlt : k < ds.length
      ·have hltD : k < (D).size := by omega
       have hbk := byte_at hDl.out hltD hlt
       by_cases hdig : 48 ≤ (D)[k].toNat ∧ (D)[k].toNat ≤ 57
       ·obtain ⟨d1, d2⟩ := hdig
        have hnew : RkA ds w1 (.int .i64 ((k + 1 : Nat) : Int)) w2 := ⟨k + 1, by omega, rfl, by
         obtain ⟨P, hP⟩ := Option.isSome_iff_exists.1 hdk
         rw [List.take_succ_eq_append_getElem hlt, hbk, dec_snoc hP d1 d2]
         rfl, hEr.out⟩
        replace hnew := mK hnew
        replace hdk := mK hdk
        replace hbk := mK hbk
        go_wp2_with fail
        go_roundw
        case measure => simp [intOf]; omega
        case rel => exact hnew.out
       ·have hno : Lib.decFrom 0 ds = none := dec_bad hlt (by rw [hbk]; exact hdig)
        have hnone := mK (hR0.out hno)
        have hcase : (D)[k].toNat < 48 ∨ 57 < (D)[k].toNat := by omega
        clear hdk hbk hno hdig
        rcases hcase with hc | hc
        ·have tok : Tok 2 := .mk _
         go_wp2_with (replace tok : Tok 3 := nxT 2 tok; refine wpList_store_row rfl 50 (.tmp 2) (.tmp 57) rfl w.heap.size #[.bool false, .slice none 0 0] rfl rfl 50 _ z2.out (by kernel_rfl) rfl (by kernel_rfl) ?_)
         refine bodyPost_ret (results_row_tmp rfl _ _ w.heap.size 50 #[.bool false, .slice none 0 0] _ _ rfl rfl (setRow_heap _ _ _ _ _ _ z2.out) Tryz.underlying50 rfl (by kernel_rfl)) rfl ?_
         exact ⟨_, _, 0, rfl, .inr ⟨hnone.out, rfl, rfl⟩, (zeroO _ w.heap.size).r, (hE1.out.trans hEr.out).row (nR _) _⟩
        ·have tok : Tok 2 := .mk _
         go_wp2_with (replace tok : Tok 3 := nxT 2 tok; refine wpList_store_row rfl 50 (.tmp 2) (.tmp 57) rfl w.heap.size #[.bool false, .slice none 0 0] rfl rfl 50 _ z2.out (by kernel_rfl) rfl (by kernel_rfl) ?_)
         refine bodyPost_ret (results_row_tmp rfl _ _ w.heap.size 50 #[.bool false, .slice none 0 0] _ _ rfl rfl (setRow_heap _ _ _ _ _ _ z2.out) Tryz.underlying50 rfl (by kernel_rfl)) rfl ?_
         exact ⟨_, _, 0, rfl, .inr ⟨hnone.out, rfl, rfl⟩, (zeroO _ w.heap.size).r, (hE1.out.trans hEr.out).row (nR _) _⟩
      ·obtain rfl : k = (D).size := by omega
       rw [List.take_of_length_le (by omega)] at hdk
       obtain ⟨N, hN⟩ := Option.isSome_iff_exists.1 hdk
       have hsome := mK (hR1.out N hN)
       clear hdk
       go_wp2_with fail
       have st : RkB ds w2 (.slice none 0 0) (.int .i64 0) w2 := ⟨0, 0, Nat.zero_le _, rfl, rfl, by rw [lim_zero]; exact (magO_nil _ 0).r, xR _⟩
       replace st := mK st
       clear hk hlt
       replace hN := mK hN
       go_loopw [7, 8] (fun t7 t8 wr => RkB ds w2 t7 t8 wr) (fun _ t8 _ => ds.length - (intOf t8).toNat)
       case atStart => exact st.out
       case round =>
        clear st
        obtain ⟨j, m, hj, rfl, hm, hM, hE3⟩ := hrel
        obtain ⟨w3, rfl⟩ : ∃ w3 : World, w3 = wr := ⟨_, rfl⟩
        by_cases hjl : j < ds.length
        ·have hjD : j < (D).size := by omega
         obtain ⟨a, c, rfl, hcap, hrow⟩ := hM
         have st : RkC ds j w3 (.int .i64 j) (.int .u32 0) (.int .u32 1) (.int .i64 0) w3 := ⟨0, 0, 1, by omega, by omega, rfl, rfl, rfl, rfl, rfl, by simp [Lib.decFrom], xR _⟩
         replace st := mK st
         replace hrow := mK hrow
         replace hm := mK hm
         replace hE3 := mK hE3
         go_wp2_with fail
         go_loopw [8, 9, 10, 11] (fun t8 t9 t10 t11 wr => RkC ds j w3 t8 t9 t10 t11 wr) (fun _ _ _ t11 _ => 9 - (intOf t11).toNat)
         case atStart => exact st.out
         case round =>
          clear st
          obtain ⟨k, P, F, hk9, hjk, rfl, rfl, rfl, rfl, hF, hP, hE4⟩ := hrel
          obtain ⟨w4, rfl⟩ : ∃ w4 : World, w4 = wr := ⟨_, rfl⟩
          obtain ⟨M, hM⟩ : ∃ M, M = j + k := ⟨_, rfl⟩
          rw [← hM] at hjk ⊢
          replace hE4 := mK hE4
          by_cases hk : k < 9
          ·by_cases hMl : M < ds.length
           ·have hFb : F ≤ 100000000 := by rw [hF]; exact Nat.pow_le_pow_right (by omega) (show k ≤ 8 by omega)
            have hPF : P < F := by
             have h1 := Lib.decFrom_lt _ _ _ hP
             have h2 : ((ds.drop j).take k).length = k := by rw [List.length_take, List.length_drop]; omega
             rw [h2, ← hF] at h1
             omega
            have hMD : M < (D).size := by omega
            have hbk := byte_at hDl.out hMD hMl
            have hdig : 48 ≤ (D)[M].toNat ∧ (D)[M].toNat ≤ 57 := by
             rw [← hbk]
             refine Classical.byContradiction fun h => ?_
             have := dec_bad hMl h
             rw [hN.out] at this
             cases this
            obtain ⟨d1, d2⟩ := hdig
            have hsn := dec_snoc hP d1 d2
            have htk : (ds.drop j).take (k + 1) = (ds.drop j).take k ++ [(D)[M]] := by
             rw [List.take_succ_eq_append_getElem (by rw [List.length_drop]; omega), List.getElem_drop, ← hbk]
             simp only [hM]
            rw [← htk] at hsn
            obtain ⟨C, hC⟩ : ∃ C, C = (D)[M].toNat := ⟨_, rfl⟩
            rw [← hC] at d1 d2 hsn
            replace hsn := mK hsn
            replace hC := mK hC.symm
            replace hF := mK hF
            replace hM := mK hM
            replace hP := mK hP
            clear htk hbk
            have hC' := hC.out
            go_wp2_with fail
            go_roundw
            case measure => simp [intOf]; omega
            case rel => exact ⟨k + 1, P * 10 + (C - 48), F * 10, by omega, by have := hM.out; omega, by go_num, by have := hM.out; congr 1; omega, by congr 1; omega, by congr 1; omega, by rw [hF.out, Nat.pow_succ], hsn.out, hE4.out⟩
           ·have hk0 : 0 < k := by omega
            have hFb : F ≤ 1000000000 := by rw [hF]; exact Nat.pow_le_pow_right (by omega) (show k ≤ 9 by omega)
            have hPF : P < F := by
             have h1 := Lib.decFrom_lt _ _ _ hP
             have h2 : ((ds.drop j).take k).length = k := by rw [List.length_take, List.length_drop]; omega
             rw [h2, ← hF] at h1
             omega
            obtain ⟨m2, p2, e1, e2, -, e4⟩ := decFrom_split ds N j k hN.out (by omega)
            rw [hm.out] at e1
            rw [hP] at e2
            obtain rfl := Option.some.inj e1
            obtain rfl := Option.some.inj e2
            rw [← hF, ← hM] at e4
            have hml : (lim m).length ≤ 65536 := dec_smallK hm.out (by rw [List.length_take]; omega)
            have KT := rtimes_c a c (lim m) F w4 (by omega) (lim_ok m) (by omega) (hrow.out.ext hE4.out)
            rw [val_lim] at KT
            have hmF : (lim (m * F)).length ≤ 65537 := by
             have := nl_small_mul (D := m) (m := F) (by omega)
             omega
            have hE34 := mK (hE3.out.trans hE4.out)
            clear e1 e2
            replace KT := mK KT
            replace e4 := mK e4
            replace hF := mK hF
            replace hM := mK hM
            replace hP := mK hP
            have tok : Tok 10 := .mk _
            go_wp2_with (first
             | (replace tok : Tok 11 := nxT 10 tok; go_at_call 131; refine KT.out.mono ?_; rintro e w5 ⟨v, rfl, hv, hx⟩; (have hE5 := mK (hE34.out.trans hx)); (obtain ⟨a1, c1, rfl, hc1, hr1⟩ := MagO.r hv); (have okP : OkL [P] := fun x hx => by rw [List.mem_singleton.1 hx]; omega); (have TR := rtrim_c (some ⟨w5.heap.size, 0, none⟩) [P] 1 _ okP (by simp) (by simp) (row_one w5 140 P)); rw [val_one, List.length_singleton] at TR; (have hrP := (row_one w5 140 P).lim okP); rw [val_one] at hrP; replace hrP := mK hrP; replace hr1 := mK hr1; replace TR := mK TR; clear okP; clear hv hx)
             | (replace tok : Tok 12 := nxT 11 tok; go_at_call 129; refine TR.out.mono ?_; rintro e w6 ⟨rfl, hw6⟩; rw [← hw6]; clear hw6; (have AD := radd_c a1 (some ⟨w5.heap.size, 0, none⟩) c1 1 (lim (m * F)) (lim P) _ (by omega) (nT (dec_smallK hP.out (nR _)) (by rw [List.length_take, List.length_drop]; omega)) (lim_ok _) (lim_ok _) (hr1.out.ext ((xR w5).al (.cells #[.int .u32 (P : Int)] 140))) hrP.out); rw [val_lim, val_lim] at AD; replace AD := mK AD)
             | (replace tok : Tok 13 := nxT 12 tok; go_at_call 130; refine AD.out.mono ?_; rintro e w7 ⟨v, q, rfl, hv, okq, hlq, hvq, hx⟩; (have hE7 := mK ((hE5.out.al (.cells #[.int .u32 (P : Int)] 140)).trans hx)); (obtain ⟨a2, c2, rfl, hc2, hr2⟩ := MagO.r hv); (have hVL := MagO.lim hv okq); rw [hvq] at hVL; (have TQ := rtrim_c a2 q c2 w7 okq (by have := dec_smallK hP.out (nR _); rw [List.length_take] at this; omega) hc2 hr2); rw [hvq] at TQ; replace TQ := mK TQ; replace hVL := mK (MagO.r hVL); clear hv okq hlq hx hr2 hc2)
             | (replace tok : Tok 14 := nxT 13 tok; go_at_call 129; refine TQ.out.mono ?_; rintro e w8 ⟨rfl, hw8⟩; rw [← hw8]; clear hw8))
            go_roundw
            case measure => simp [intOf]; have := hM.out; omega
            case rel => exact ⟨M, m * F + P, hjk, rfl, e4.out, hVL.out, hE7.out⟩
          ·have hk0 : 0 < k := by omega
           have hFb : F ≤ 1000000000 := by rw [hF]; exact Nat.pow_le_pow_right (by omega) (show k ≤ 9 by omega)
           have hPF : P < F := by
            have h1 := Lib.decFrom_lt _ _ _ hP
            have h2 : ((ds.drop j).take k).length = k := by rw [List.length_take, List.length_drop]; omega
            rw [h2, ← hF] at h1
            omega
           obtain ⟨m2, p2, e1, e2, -, e4⟩ := decFrom_split ds N j k hN.out (by omega)
           rw [hm.out] at e1
           rw [hP] at e2
           obtain rfl := Option.some.inj e1
           obtain rfl := Option.some.inj e2
           rw [← hF, ← hM] at e4
           have hml : (lim m).length ≤ 65536 := dec_smallK hm.out (by rw [List.length_take]; omega)
           have KT := rtimes_c a c (lim m) F w4 (by omega) (lim_ok m) (by omega) (hrow.out.ext hE4.out)
           rw [val_lim] at KT
           have hmF : (lim (m * F)).length ≤ 65537 := by
            have := nl_small_mul (D := m) (m := F) (by omega)
            omega
           have hE34 := mK (hE3.out.trans hE4.out)
           clear e1 e2
           replace KT := mK KT
           replace e4 := mK e4
           replace hF := mK hF
           replace hM := mK hM
           replace hP := mK hP
           have tok : Tok 10 := .mk _
           go_wp2_with (first
            | (replace tok : Tok 11 := nxT 10 tok; go_at_call 131; refine KT.out.mono ?_; rintro e w5 ⟨v, rfl, hv, hx⟩; (have hE5 := mK (hE34.out.trans hx)); (obtain ⟨a1, c1, rfl, hc1, hr1⟩ := MagO.r hv); (have okP : OkL [P] := fun x hx => by rw [List.mem_singleton.1 hx]; omega); (have TR := rtrim_c (some ⟨w5.heap.size, 0, none⟩) [P] 1 _ okP (by simp) (by simp) (row_one w5 140 P)); rw [val_one, List.length_singleton] at TR; (have hrP := (row_one w5 140 P).lim okP); rw [val_one] at hrP; replace hrP := mK hrP; replace hr1 := mK hr1; replace TR := mK TR; clear okP; clear hv hx)
            | (replace tok : Tok 12 := nxT 11 tok; go_at_call 129; refine TR.out.mono ?_; rintro e w6 ⟨rfl, hw6⟩; rw [← hw6]; clear hw6; (have AD := radd_c a1 (some ⟨w5.heap.size, 0, none⟩) c1 1 (lim (m * F)) (lim P) _ (by omega) (nT (dec_smallK hP.out (nR _)) (by rw [List.length_take, List.length_drop]; omega)) (lim_ok _) (lim_ok _) (hr1.out.ext ((xR w5).al (.cells #[.int .u32 (P : Int)] 140))) hrP.out); rw [val_lim, val_lim] at AD; replace AD := mK AD)
            | (replace tok : Tok 13 := nxT 12 tok; go_at_call 130; refine AD.out.mono ?_; rintro e w7 ⟨v, q, rfl, hv, okq, hlq, hvq, hx⟩; (have hE7 := mK ((hE5.out.al (.cells #[.int .u32 (P : Int)] 140)).trans hx)); (obtain ⟨a2, c2, rfl, hc2, hr2⟩ := MagO.r hv); (have hVL := MagO.lim hv okq); rw [hvq] at hVL; (have TQ := rtrim_c a2 q c2 w7 okq (by have := dec_smallK hP.out (nR _); rw [List.length_take] at this; omega) hc2 hr2); rw [hvq] at TQ; replace TQ := mK TQ; replace hVL := mK (MagO.r hVL); clear hv okq hlq hx hr2 hc2)
            | (replace tok : Tok 14 := nxT 13 tok; go_at_call 129; refine TQ.out.mono ?_; rintro e w8 ⟨rfl, hw8⟩; rw [← hw8]; clear hw8))
           go_roundw
           case measure => simp [intOf]; have := hM.out; omega
           case rel => exact ⟨M, m * F + P, hjk, rfl, e4.out, hVL.out, hE7.out⟩
        ·obtain rfl : j = (D).size := by omega
         rw [List.take_of_length_le (by omega), hN.out] at hm
         obtain rfl := Option.some.inj hm
         have SG := rsigned_c true u7 (lim N) w3 (lim_ok N) (nT (dec_smallK hN.out (nR _)) (by omega)) hM
         rw [val_lim] at SG
         replace SG := mK SG
         replace hE3 := mK (hEr.out.trans hE3)
         clear hm hM
         have tok : Tok 20 := .mk _
         go_wp2_with (first
          | (replace tok : Tok 21 := nxT 20 tok; go_at_call 132; refine SG.out.mono ?_; rintro e w5 ⟨v, rfl, hv, hx⟩; (obtain ⟨vb, va, vn, vc, rfl⟩ := hv.shape); (have hE5 := mK (hE3.out.trans hx)); (have z5 := mK (hE5.out.blk z1.out)); replace hv := mK hv; clear hx)
          | (replace tok : Tok 22 := nxT 21 tok; refine wpList_store_row rfl 50 (.tmp 2) (.tmp 94) rfl w.heap.size #[.bool vb, .slice va vn vc] rfl rfl 50 _ z5.out (by kernel_rfl) rfl (by kernel_rfl) ?_))
         refine bodyPost_ret (results_row_tmp rfl _ _ w.heap.size 50 #[.bool vb, .slice va vn vc] _ _ rfl rfl (setRow_heap _ _ _ _ _ _ z5.out) Tryz.underlying50 rfl (by kernel_rfl)) rfl ?_
         exact ⟨_, _, sg true N, rfl, .inl ⟨hsome.out, rfl⟩, hv.out.flat z5.out (by simp [flatV]) _, (hE1.out.trans hE5.out).row (nR _) _⟩
  ·have e45 : (s[0].toNat == 45) = false := by
    cases hb : s[0].toNat == 45 with
    | false => rfl
    | true => exact absurd (UInt8.toNat_inj.1 (show s[0].toNat = (45 : UInt8).toNat from eq_of_beq hb)) h45
   have e45' : ((s[0].toNat : Int) == 45) = false := by
    cases hb : (s[0].toNat : Int) == 45 with
    | false => rfl
    | true => have := eq_of_beq hb; exact absurd (UInt8.toNat_inj.1 (show s[0].toNat = (45 : UInt8).toNat from by rw [show (45 : UInt8).toNat = 45 from rfl]; omega)) h45
   have hbody : bodyI s.data.toList = s.data.toList := by unfold bodyI; rw [if_neg (by rw [hh]; simpa using h45)]
   have hneg : negI s.data.toList = false := by unfold negI; rw [hh]; simpa using h45
   have hbad : badI s.data.toList = (decide (s[0] = 48) && decide (1 < s.size)) := by
    unfold badI
    have hne : s.data.toList ≠ [] := fun e => by rw [e] at hsl; simp at hsl; omega
    rw [hbody, hneg, hh, hsl]
    simp [hne]
   rw [hbody, hneg] at P2
   rw [hbad] at P1 P2
   obtain ⟨ds, hds⟩ : ∃ ds, ds = s.data.toList := ⟨_, rfl⟩
   have hDl := mK hds.symm
   rw [← hds] at P2 hsl
   clear hbad hneg hbody hR hh hds
   by_cases h48 : s[0] = 48
   ·have g1 : (s[0].toNat == 48) = true := by rw [h48]; rfl
    have g2 : ((s[0].toNat : Int) == 48) = true := by rw [h48]; rfl
    by_cases h1 : 1 < s.size
    ·have hnone := mK (P1 (by simp [h48, h1]))
     clear P1 P2 hDl h48
     go_enter Tryz.func79, Tryz.ntmps79
     have tok : Tok 0 := .mk _
     go_wp2_with (replace tok : Tok 1 := nxT 0 tok; rw [← hw1.out]; refine wpList_store_row rfl 50 (.tmp 2) (.tmp 40) rfl w.heap.size #[.bool false, .slice none 0 0] rfl rfl 50 _ z1.out (by kernel_rfl) rfl (by kernel_rfl) ?_)
     refine bodyPost_ret (results_row_tmp rfl _ _ w.heap.size 50 #[.bool false, .slice none 0 0] _ _ rfl rfl (setRow_heap _ _ _ _ _ _ z1.out) Tryz.underlying50 rfl (by kernel_rfl)) rfl ?_
     exact ⟨_, _, 0, rfl, .inr ⟨hnone.out, rfl, rfl⟩, (zeroO _ w.heap.size).r, hE1.out.row (nR _) _⟩
    ·obtain ⟨Q0, Q1⟩ := P2 (by simp [h1])
     have hR0 := mK Q0
     have hR1 := mK Q1
     clear P1 P2 h48 Q0 Q1
     go_enter Tryz.func79, Tryz.ntmps79
     go_wp2_with fail
     rw [← hw1.out]
     have st : RkA ds w1 (.int .i64 0) w1 := ⟨0, Nat.zero_le _, rfl, rfl, xR _⟩
     replace st := mK st
     go_loopw [6] (fun t6 wr => RkA ds w1 t6 wr) (fun t6 _ => ds.length - (intOf t6).toNat)
     case atStart => exact st.out
     case round =>
      clear st
      obtain ⟨k, hk, rfl, hdk, hEr⟩ := hrel
      obtain ⟨w2, rfl⟩ : ∃ w2 : World, w2 = wr := ⟨_, rfl⟩
      have z2 := mK (hEr.blk z1.out)
      replace hEr := mK hEr
      by_cases hlt : k < ds.length
      ·have hltD : k < (s).size := by omega
       have hbk := byte_at hDl.out hltD hlt
       by_cases hdig : 48 ≤ (s)[k].toNat ∧ (s)[k].toNat ≤ 57
       ·obtain ⟨d1, d2⟩ := hdig
        have hnew : RkA ds w1 (.int .i64 ((k + 1 : Nat) : Int)) w2 := ⟨k + 1, by omega, rfl, by
         obtain ⟨P, hP⟩ := Option.isSome_iff_exists.1 hdk
         rw [List.take_succ_eq_append_getElem hlt, hbk, dec_snoc hP d1 d2]
         rfl, hEr.out⟩
        replace hnew := mK hnew
        replace hdk := mK hdk
        replace hbk := mK hbk
        go_wp2_with fail
        go_roundw
        case measure => simp [intOf]; omega
        case rel => exact hnew.out
       ·have hno : Lib.decFrom 0 ds = none := dec_bad hlt (by rw [hbk]; exact hdig)
        have hnone := mK (hR0.out hno)
        have hcase : (s)[k].toNat < 48 ∨ 57 < (s)[k].toNat := by omega
        clear hdk hbk hno hdig
        rcases hcase with hc | hc
        ·have tok : Tok 2 := .mk _
         go_wp2_with (replace tok : Tok 3 := nxT 2 tok; refine wpList_store_row rfl 50 (.tmp 2) (.tmp 57) rfl w.heap.size #[.bool false, .slice none 0 0] rfl rfl 50 _ z2.out (by kernel_rfl) rfl (by kernel_rfl) ?_)
         refine bodyPost_ret (results_row_tmp rfl _ _ w.heap.size 50 #[.bool false, .slice none 0 0] _ _ rfl rfl (setRow_heap _ _ _ _ _ _ z2.out) Tryz.underlying50 rfl (by kernel_rfl)) rfl ?_
         exact ⟨_, _, 0, rfl, .inr ⟨hnone.out, rfl, rfl⟩, (zeroO _ w.heap.size).r, (hE1.out.trans hEr.out).row (nR _) _⟩
        ·have tok : Tok 2 := .mk _
         go_wp2_with (replace tok : Tok 3 := nxT 2 tok; refine wpList_store_row rfl 50 (.tmp 2) (.tmp 57) rfl w.heap.size #[.bool false, .slice none 0 0] rfl rfl 50 _ z2.out (by kernel_rfl) rfl (by kernel_rfl) ?_)
         refine bodyPost_ret (results_row_tmp rfl _ _ w.heap.size 50 #[.bool false, .slice none 0 0] _ _ rfl rfl (setRow_heap _ _ _ _ _ _ z2.out) Tryz.underlying50 rfl (by kernel_rfl)) rfl ?_
         exact ⟨_, _, 0, rfl, .inr ⟨hnone.out, rfl, rfl⟩, (zeroO _ w.heap.size).r, (hE1.out.trans hEr.out).row (nR _) _⟩
      ·obtain rfl : k = (s).size := by omega
       rw [List.take_of_length_le (by omega)] at hdk
       obtain ⟨N, hN⟩ := Option.isSome_iff_exists.1 hdk
       have hsome := mK (hR1.out N hN)
       clear hdk
       go_wp2_with fail
       have st : RkB ds w2 (.slice none 0 0) (.int .i64 0) w2 := ⟨0, 0, Nat.zero_le _, rfl, rfl, by rw [lim_zero]; exact (magO_nil _ 0).r, xR _⟩
       replace st := mK st
       clear hk hlt
       replace hN := mK hN
       go_loopw [7, 8] (fun t7 t8 wr => RkB ds w2 t7 t8 wr) (fun _ t8 _ => ds.length - (intOf t8).toNat)
       case atStart => exact st.out
       case round =>
        clear st
        obtain ⟨j, m, hj, rfl, hm, hM, hE3⟩ := hrel
        obtain ⟨w3, rfl⟩ : ∃ w3 : World, w3 = wr := ⟨_, rfl⟩
        by_cases hjl : j < ds.length
        ·have hjD : j < (s).size := by omega
         obtain ⟨a, c, rfl, hcap, hrow⟩ := hM
         have st : RkC ds j w3 (.int .i64 j) (.int .u32 0) (.int .u32 1) (.int .i64 0) w3 := ⟨0, 0, 1, by omega, by omega, rfl, rfl, rfl, rfl, rfl, by simp [Lib.decFrom], xR _⟩
         replace st := mK st
         replace hrow := mK hrow
         replace hm := mK hm
         replace hE3 := mK hE3
         go_wp2_with fail
         go_loopw [8, 9, 10, 11] (fun t8 t9 t10 t11 wr => RkC ds j w3 t8 t9 t10 t11 wr) (fun _ _ _ t11 _ => 9 - (intOf t11).toNat)
         case atStart => exact st.out
         case round =>
          clear st
          obtain ⟨k, P, F, hk9, hjk, rfl, rfl, rfl, rfl, hF, hP, hE4⟩ := hrel
          obtain ⟨w4, rfl⟩ : ∃ w4 : World, w4 = wr := ⟨_, rfl⟩
          obtain ⟨M, hM⟩ : ∃ M, M = j + k := ⟨_, rfl⟩
          rw [← hM] at hjk ⊢
          replace hE4 := mK hE4
          by_cases hk : k < 9
          ·by_cases hMl : M < ds.length
           ·have hFb : F ≤ 100000000 := by rw [hF]; exact Nat.pow_le_pow_right (by omega) (show k ≤ 8 by omega)
            have hPF : P < F := by
             have h1 := Lib.decFrom_lt _ _ _ hP
             have h2 : ((ds.drop j).take k).length = k := by rw [List.length_take, List.length_drop]; omega
             rw [h2, ← hF] at h1
             omega
            have hMD : M < (s).size := by omega
            have hbk := byte_at hDl.out hMD hMl
            have hdig : 48 ≤ (s)[M].toNat ∧ (s)[M].toNat ≤ 57 := by
             rw [← hbk]
             refine Classical.byContradiction fun h => ?_
             have := dec_bad hMl h
             rw [hN.out] at this
             cases this
            obtain ⟨d1, d2⟩ := hdig
            have hsn := dec_snoc hP d1 d2
            have htk : (ds.drop j).take (k + 1) = (ds.drop j).take k ++ [(s)[M]] := by
             rw [List.take_succ_eq_append_getElem (by rw [List.length_drop]; omega), List.getElem_drop, ← hbk]
             simp only [hM]
            rw [← htk] at hsn
            obtain ⟨C, hC⟩ : ∃ C, C = (s)[M].toNat := ⟨_, rfl⟩
            rw [← hC] at d1 d2 hsn
            replace hsn := mK hsn
            replace hC := mK hC.symm
            replace hF := mK hF
            replace hM := mK hM
            replace hP := mK hP
            clear htk hbk
            have hC' := hC.out
            go_wp2_with fail
            go_roundw
            case measure => simp [intOf]; omega
            case rel => exact ⟨k + 1, P * 10 + (C - 48), F * 10, by omega, by have := hM.out; omega, by go_num, by have := hM.out; congr 1; omega, by congr 1; omega, by congr 1; omega, by rw [hF.out, Nat.pow_succ], hsn.out, hE4.out⟩
           ·have hk0 : 0 < k := by omega
            have hFb : F ≤ 1000000000 := by rw [hF]; exact Nat.pow_le_pow_right (by omega) (show k ≤ 9 by omega)
            have hPF : P < F := by
             have h1 := Lib.decFrom_lt _ _ _ hP
             have h2 : ((ds.drop j).take k).length = k := by rw [List.length_take, List.length_drop]; omega
             rw [h2, ← hF] at h1
             omega
            obtain ⟨m2, p2, e1, e2, -, e4⟩ := decFrom_split ds N j k hN.out (by omega)
            rw [hm.out] at e1
            rw [hP] at e2
            obtain rfl := Option.some.inj e1
            obtain rfl := Option.some.inj e2
            rw [← hF, ← hM] at e4
            have hml : (lim m).length ≤ 65536 := dec_smallK hm.out (by rw [List.length_take]; omega)
            have KT := rtimes_c a c (lim m) F w4 (by omega) (lim_ok m) (by omega) (hrow.out.ext hE4.out)
            rw [val_lim] at KT
            have hmF : (lim (m * F)).length ≤ 65537 := by
             have := nl_small_mul (D := m) (m := F) (by omega)
             omega
            have hE34 := mK (hE3.out.trans hE4.out)
            clear e1 e2
            replace KT := mK KT
            replace e4 := mK e4
            replace hF := mK hF
            replace hM := mK hM
            replace hP := mK hP
            have tok : Tok 10 := .mk _
            go_wp2_with (first
             | (replace tok : Tok 11 := nxT 10 tok; go_at_call 131; refine KT.out.mono ?_; rintro e w5 ⟨v, rfl, hv, hx⟩; (have hE5 := mK (hE34.out.trans hx)); (obtain ⟨a1, c1, rfl, hc1, hr1⟩ := MagO.r hv); (have okP : OkL [P] := fun x hx => by rw [List.mem_singleton.1 hx]; omega); (have TR := rtrim_c (some ⟨w5.heap.size, 0, none⟩) [P] 1 _ okP (by simp) (by simp) (row_one w5 140 P)); rw [val_one, List.length_singleton] at TR; (have hrP := (row_one w5 140 P).lim okP); rw [val_one] at hrP; replace hrP := mK hrP; replace hr1 := mK hr1; replace TR := mK TR; clear okP; clear hv hx)
             | (replace tok : Tok 12 := nxT 11 tok; go_at_call 129; refine TR.out.mono ?_; rintro e w6 ⟨rfl, hw6⟩; rw [← hw6]; clear hw6; (have AD := radd_c a1 (some ⟨w5.heap.size, 0, none⟩) c1 1 (lim (m * F)) (lim P) _ (by omega) (nT (dec_smallK hP.out (nR _)) (by rw [List.length_take, List.length_drop]; omega)) (lim_ok _) (lim_ok _) (hr1.out.ext ((xR w5).al (.cells #[.int .u32 (P : Int)] 140))) hrP.out); rw [val_lim, val_lim] at AD; replace AD := mK AD)
             | (replace tok : Tok 13 := nxT 12 tok; go_at_call 130; refine AD.out.mono ?_; rintro e w7 ⟨v, q, rfl, hv, okq, hlq, hvq, hx⟩; (have hE7 := mK ((hE5.out.al (.cells #[.int .u32 (P : Int)] 140)).trans hx)); (obtain ⟨a2, c2, rfl, hc2, hr2⟩ := MagO.r hv); (have hVL := MagO.lim hv okq); rw [hvq] at hVL; (have TQ := rtrim_c a2 q c2 w7 okq (by have := dec_smallK hP.out (nR _); rw [List.length_take] at this; omega) hc2 hr2); rw [hvq] at TQ; replace TQ := mK TQ; replace hVL := mK (MagO.r hVL); clear hv okq hlq hx hr2 hc2)
             | (replace tok : Tok 14 := nxT 13 tok; go_at_call 129; refine TQ.out.mono ?_; rintro e w8 ⟨rfl, hw8⟩; rw [← hw8]; clear hw8))
            go_roundw
            case measure => simp [intOf]; have := hM.out; omega
            case rel => exact ⟨M, m * F + P, hjk, rfl, e4.out, hVL.out, hE7.out⟩
          ·have hk0 : 0 < k := by omega
           have hFb : F ≤ 1000000000 := by rw [hF]; exact Nat.pow_le_pow_right (by omega) (show k ≤ 9 by omega)
           have hPF : P < F := by
            have h1 := Lib.decFrom_lt _ _ _ hP
            have h2 : ((ds.drop j).take k).length = k := by rw [List.length_take, List.length_drop]; omega
            rw [h2, ← hF] at h1
            omega
           obtain ⟨m2, p2, e1, e2, -, e4⟩ := decFrom_split ds N j k hN.out (by omega)
           rw [hm.out] at e1
           rw [hP] at e2
           obtain rfl := Option.some.inj e1
           obtain rfl := Option.some.inj e2
           rw [← hF, ← hM] at e4
           have hml : (lim m).length ≤ 65536 := dec_smallK hm.out (by rw [List.length_take]; omega)
           have KT := rtimes_c a c (lim m) F w4 (by omega) (lim_ok m) (by omega) (hrow.out.ext hE4.out)
           rw [val_lim] at KT
           have hmF : (lim (m * F)).length ≤ 65537 := by
            have := nl_small_mul (D := m) (m := F) (by omega)
            omega
           have hE34 := mK (hE3.out.trans hE4.out)
           clear e1 e2
           replace KT := mK KT
           replace e4 := mK e4
           replace hF := mK hF
           replace hM := mK hM
           replace hP := mK hP
           have tok : Tok 10 := .mk _
           go_wp2_with (first
            | (replace tok : Tok 11 := nxT 10 tok; go_at_call 131; refine KT.out.mono ?_; rintro e w5 ⟨v, rfl, hv, hx⟩; (have hE5 := mK (hE34.out.trans hx)); (obtain ⟨a1, c1, rfl, hc1, hr1⟩ := MagO.r hv); (have okP : OkL [P] := fun x hx => by rw [List.mem_singleton.1 hx]; omega); (have TR := rtrim_c (some ⟨w5.heap.size, 0, none⟩) [P] 1 _ okP (by simp) (by simp) (row_one w5 140 P)); rw [val_one, List.length_singleton] at TR; (have hrP := (row_one w5 140 P).lim okP); rw [val_one] at hrP; replace hrP := mK hrP; replace hr1 := mK hr1; replace TR := mK TR; clear okP; clear hv hx)
            | (replace tok : Tok 12 := nxT 11 tok; go_at_call 129; refine TR.out.mono ?_; rintro e w6 ⟨rfl, hw6⟩; rw [← hw6]; clear hw6; (have AD := radd_c a1 (some ⟨w5.heap.size, 0, none⟩) c1 1 (lim (m * F)) (lim P) _ (by omega) (nT (dec_smallK hP.out (nR _)) (by rw [List.length_take, List.length_drop]; omega)) (lim_ok _) (lim_ok _) (hr1.out.ext ((xR w5).al (.cells #[.int .u32 (P : Int)] 140))) hrP.out); rw [val_lim, val_lim] at AD; replace AD := mK AD)
            | (replace tok : Tok 13 := nxT 12 tok; go_at_call 130; refine AD.out.mono ?_; rintro e w7 ⟨v, q, rfl, hv, okq, hlq, hvq, hx⟩; (have hE7 := mK ((hE5.out.al (.cells #[.int .u32 (P : Int)] 140)).trans hx)); (obtain ⟨a2, c2, rfl, hc2, hr2⟩ := MagO.r hv); (have hVL := MagO.lim hv okq); rw [hvq] at hVL; (have TQ := rtrim_c a2 q c2 w7 okq (by have := dec_smallK hP.out (nR _); rw [List.length_take] at this; omega) hc2 hr2); rw [hvq] at TQ; replace TQ := mK TQ; replace hVL := mK (MagO.r hVL); clear hv okq hlq hx hr2 hc2)
            | (replace tok : Tok 14 := nxT 13 tok; go_at_call 129; refine TQ.out.mono ?_; rintro e w8 ⟨rfl, hw8⟩; rw [← hw8]; clear hw8))
           go_roundw
           case measure => simp [intOf]; have := hM.out; omega
           case rel => exact ⟨M, m * F + P, hjk, rfl, e4.out, hVL.out, hE7.out⟩
        ·obtain rfl : j = (s).size := by omega
         rw [List.take_of_length_le (by omega), hN.out] at hm
         obtain rfl := Option.some.inj hm
         have SG := rsigned_c false u7 (lim N) w3 (lim_ok N) (nT (dec_smallK hN.out (nR _)) (by omega)) hM
         rw [val_lim] at SG
         replace SG := mK SG
         replace hE3 := mK (hEr.out.trans hE3)
         clear hm hM
         have tok : Tok 20 := .mk _
         go_wp2_with (first
          | (replace tok : Tok 21 := nxT 20 tok; go_at_call 132; refine SG.out.mono ?_; rintro e w5 ⟨v, rfl, hv, hx⟩; (obtain ⟨vb, va, vn, vc, rfl⟩ := hv.shape); (have hE5 := mK (hE3.out.trans hx)); (have z5 := mK (hE5.out.blk z1.out)); replace hv := mK hv; clear hx)
          | (replace tok : Tok 22 := nxT 21 tok; refine wpList_store_row rfl 50 (.tmp 2) (.tmp 94) rfl w.heap.size #[.bool vb, .slice va vn vc] rfl rfl 50 _ z5.out (by kernel_rfl) rfl (by kernel_rfl) ?_))
         refine bodyPost_ret (results_row_tmp rfl _ _ w.heap.size 50 #[.bool vb, .slice va vn vc] _ _ rfl rfl (setRow_heap _ _ _ _ _ _ z5.out) Tryz.underlying50 rfl (by kernel_rfl)) rfl ?_
         exact ⟨_, _, sg false N, rfl, .inl ⟨hsome.out, rfl⟩, hv.out.flat z5.out (by simp [flatV]) _, (hE1.out.trans hE5.out).row (nR _) _⟩
   ·have g1 : (s[0].toNat == 48) = false := by
     cases hb : s[0].toNat == 48 with
     | false => rfl
     | true => exact absurd (UInt8.toNat_inj.1 (show s[0].toNat = (48 : UInt8).toNat from eq_of_beq hb)) h48
    have g2 : ((s[0].toNat : Int) == 48) = false := by
     cases hb : (s[0].toNat : Int) == 48 with
     | false => rfl
     | true => have := eq_of_beq hb; exact absurd (UInt8.toNat_inj.1 (show s[0].toNat = (48 : UInt8).toNat from by rw [show (48 : UInt8).toNat = 48 from rfl]; omega)) h48
    obtain ⟨Q0, Q1⟩ := P2 (by simp [h48])
    have hR0 := mK Q0
    have hR1 := mK Q1
    clear P1 P2 h48 Q0 Q1
    go_enter Tryz.func79, Tryz.ntmps79
    go_wp2_with fail
    rw [← hw1.out]
    have st : RkA ds w1 (.int .i64 0) w1 := ⟨0, Nat.zero_le _, rfl, rfl, xR _⟩
    replace st := mK st
    go_loopw [6] (fun t6 wr => RkA ds w1 t6 wr) (fun t6 _ => ds.length - (intOf t6).toNat)
    case atStart => exact st.out
    case round =>
     clear st
     obtain ⟨k, hk, rfl, hdk, hEr⟩ := hrel
     obtain ⟨w2, rfl⟩ : ∃ w2 : World, w2 = wr := ⟨_, rfl⟩
     have z2 := mK (hEr.blk z1.out)
     replace hEr := mK hEr
     by_cases hlt : k < ds.length
     ·have hltD : k < (s).size := by omega
      have hbk := byte_at hDl.out hltD hlt
      by_cases hdig : 48 ≤ (s)[k].toNat ∧ (s)[k].toNat ≤ 57
      ·obtain ⟨d1, d2⟩ := hdig
       have hnew : RkA ds w1 (.int .i64 ((k + 1 : Nat) : Int)) w2 := ⟨k + 1, by omega, rfl, by
        obtain ⟨P, hP⟩ := Option.isSome_iff_exists.1 hdk
        rw [List.take_succ_eq_append_getElem hlt, hbk, dec_snoc hP d1 d2]
        rfl, hEr.out⟩
       replace hnew := mK hnew
       replace hdk := mK hdk
       replace hbk := mK hbk
       go_wp2_with fail
       go_roundw
       case measure => simp [intOf]; omega
       case rel => exact hnew.out
      ·have hno : Lib.decFrom 0 ds = none := dec_bad hlt (by rw [hbk]; exact hdig)
       have hnone := mK (hR0.out hno)
       have hcase : (s)[k].toNat < 48 ∨ 57 < (s)[k].toNat := by omega
       clear hdk hbk hno hdig
       rcases hcase with hc | hc
       ·have tok : Tok 2 := .mk _
        go_wp2_with (replace tok : Tok 3 := nxT 2 tok; refine wpList_store_row rfl 50 (.tmp 2) (.tmp 57) rfl w.heap.size #[.bool false, .slice none 0 0] rfl rfl 50 _ z2.out (by kernel_rfl) rfl (by kernel_rfl) ?_)
        refine bodyPost_ret (results_row_tmp rfl _ _ w.heap.size 50 #[.bool false, .slice none 0 0] _ _ rfl rfl (setRow_heap _ _ _ _ _ _ z2.out) Tryz.underlying50 rfl (by kernel_rfl)) rfl ?_
        exact ⟨_, _, 0, rfl, .inr ⟨hnone.out, rfl, rfl⟩, (zeroO _ w.heap.size).r, (hE1.out.trans hEr.out).row (nR _) _⟩
       ·have tok : Tok 2 := .mk _
        go_wp2_with (replace tok : Tok 3 := nxT 2 tok; refine wpList_store_row rfl 50 (.tmp 2) (.tmp 57) rfl w.heap.size #[.bool false, .slice none 0 0] rfl rfl 50 _ z2.out (by kernel_rfl) rfl (by kernel_rfl) ?_)
        refine bodyPost_ret (results_row_tmp rfl _ _ w.heap.size 50 #[.bool false, .slice none 0 0] _ _ rfl rfl (setRow_heap _ _ _ _ _ _ z2.out) Tryz.underlying50 rfl (by kernel_rfl)) rfl ?_
        exact ⟨_, _, 0, rfl, .inr ⟨hnone.out, rfl, rfl⟩, (zeroO _ w.heap.size).r, (hE1.out.trans hEr.out).row (nR _) _⟩
     ·obtain rfl : k = (s).size := by omega
      rw [List.take_of_length_le (by omega)] at hdk
      obtain ⟨N, hN⟩ := Option.isSome_iff_exists.1 hdk
      have hsome := mK (hR1.out N hN)
      clear hdk
      go_wp2_with fail
      have st : RkB ds w2 (.slice none 0 0) (.int .i64 0) w2 := ⟨0, 0, Nat.zero_le _, rfl, rfl, by rw [lim_zero]; exact (magO_nil _ 0).r, xR _⟩
      replace st := mK st
      clear hk hlt
      replace hN := mK hN
      go_loopw [7, 8] (fun t7 t8 wr => RkB ds w2 t7 t8 wr) (fun _ t8 _ => ds.length - (intOf t8).toNat)
      case atStart => exact st.out
      case round =>
       clear st
       obtain ⟨j, m, hj, rfl, hm, hM, hE3⟩ := hrel
       obtain ⟨w3, rfl⟩ : ∃ w3 : World, w3 = wr := ⟨_, rfl⟩
       by_cases hjl : j < ds.length
       ·have hjD : j < (s).size := by omega
        obtain ⟨a, c, rfl, hcap, hrow⟩ := hM
        have st : RkC ds j w3 (.int .i64 j) (.int .u32 0) (.int .u32 1) (.int .i64 0) w3 := ⟨0, 0, 1, by omega, by omega, rfl, rfl, rfl, rfl, rfl, by simp [Lib.decFrom], xR _⟩
        replace st := mK st
        replace hrow := mK hrow
        replace hm := mK hm
        replace hE3 := mK hE3
        go_wp2_with fail
        go_loopw [8, 9, 10, 11] (fun t8 t9 t10 t11 wr => RkC ds j w3 t8 t9 t10 t11 wr) (fun _ _ _ t11 _ => 9 - (intOf t11).toNat)
        case atStart => exact st.out
        case round =>
         clear st
         obtain ⟨k, P, F, hk9, hjk, rfl, rfl, rfl, rfl, hF, hP, hE4⟩ := hrel
         obtain ⟨w4, rfl⟩ : ∃ w4 : World, w4 = wr := ⟨_, rfl⟩
         obtain ⟨M, hM⟩ : ∃ M, M = j + k := ⟨_, rfl⟩
         rw [← hM] at hjk ⊢
         replace hE4 := mK hE4
         by_cases hk : k < 9
         ·by_cases hMl : M < ds.length
          ·have hFb : F ≤ 100000000 := by rw [hF]; exact Nat.pow_le_pow_right (by omega) (show k ≤ 8 by omega)
           have hPF : P < F := by
            have h1 := Lib.decFrom_lt _ _ _ hP
            have h2 : ((ds.drop j).take k).length = k := by rw [List.length_take, List.length_drop]; omega
            rw [h2, ← hF] at h1
            omega
           have hMD : M < (s).size := by omega
           have hbk := byte_at hDl.out hMD hMl
           have hdig : 48 ≤ (s)[M].toNat ∧ (s)[M].toNat ≤ 57 := by
            rw [← hbk]
            refine Classical.byContradiction fun h => ?_
            have := dec_bad hMl h
            rw [hN.out] at this
            cases this
           obtain ⟨d1, d2⟩ := hdig
           have hsn := dec_snoc hP d1 d2
           have htk : (ds.drop j).take (k + 1) = (ds.drop j).take k ++ [(s)[M]] := by
            rw [List.take_succ_eq_append_getElem (by rw [List.length_drop]; omega), List.getElem_drop, ← hbk]
            simp only [hM]
           rw [← htk] at hsn
           obtain ⟨C, hC⟩ : ∃ C, C = (s)[M].toNat := ⟨_, rfl⟩
           rw [← hC] at d1 d2 hsn
           replace hsn := mK hsn
           replace hC := mK hC.symm
           replace hF := mK hF
           replace hM := mK hM
           replace hP := mK hP
           clear htk hbk
           have hC' := hC.out
           go_wp2_with fail
           go_roundw
           case measure => simp [intOf]; omega
           case rel => exact ⟨k + 1, P * 10 + (C - 48), F * 10, by omega, by have := hM.out; omega, by go_num, by have := hM.out; congr 1; omega, by congr 1; omega, by congr 1; omega, by rw [hF.out, Nat.pow_succ], hsn.out, hE4.out⟩
          ·have hk0 : 0 < k := by omega
           have hFb : F ≤ 1000000000 := by rw [hF]; exact Nat.pow_le_pow_right (by omega) (show k ≤ 9 by omega)
           have hPF : P < F := by
            have h1 := Lib.decFrom_lt _ _ _ hP
            have h2 : ((ds.drop j).take k).length = k := by rw [List.length_take, List.length_drop]; omega
            rw [h2, ← hF] at h1
            omega
           obtain ⟨m2, p2, e1, e2, -, e4⟩ := decFrom_split ds N j k hN.out (by omega)
           rw [hm.out] at e1
           rw [hP] at e2
           obtain rfl := Option.some.inj e1
           obtain rfl := Option.some.inj e2
           rw [← hF, ← hM] at e4
           have hml : (lim m).length ≤ 65536 := dec_smallK hm.out (by rw [List.length_take]; omega)
           have KT := rtimes_c a c (lim m) F w4 (by omega) (lim_ok m) (by omega) (hrow.out.ext hE4.out)
           rw [val_lim] at KT
           have hmF : (lim (m * F)).length ≤ 65537 := by
            have := nl_small_mul (D := m) (m := F) (by omega)
            omega
           have hE34 := mK (hE3.out.trans hE4.out)
           clear e1 e2
           replace KT := mK KT
           replace e4 := mK e4
           replace hF := mK hF
           replace hM := mK hM
           replace hP := mK hP
           have tok : Tok 10 := .mk _
           go_wp2_with (first
            | (replace tok : Tok 11 := nxT 10 tok; go_at_call 131; refine KT.out.mono ?_; rintro e w5 ⟨v, rfl, hv, hx⟩; (have hE5 := mK (hE34.out.trans hx)); (obtain ⟨a1, c1, rfl, hc1, hr1⟩ := MagO.r hv); (have okP : OkL [P] := fun x hx => by rw [List.mem_singleton.1 hx]; omega); (have TR := rtrim_c (some ⟨w5.heap.size, 0, none⟩) [P] 1 _ okP (by simp) (by simp) (row_one w5 140 P)); rw [val_one, List.length_singleton] at TR; (have hrP := (row_one w5 140 P).lim okP); rw [val_one] at hrP; replace hrP := mK hrP; replace hr1 := mK hr1; replace TR := mK TR; clear okP; clear hv hx)
            | (replace tok : Tok 12 := nxT 11 tok; go_at_call 129; refine TR.out.mono ?_; rintro e w6 ⟨rfl, hw6⟩; rw [← hw6]; clear hw6; (have AD := radd_c a1 (some ⟨w5.heap.size, 0, none⟩) c1 1 (lim (m * F)) (lim P) _ (by omega) (nT (dec_smallK hP.out (nR _)) (by rw [List.length_take, List.length_drop]; omega)) (lim_ok _) (lim_ok _) (hr1.out.ext ((xR w5).al (.cells #[.int .u32 (P : Int)] 140))) hrP.out); rw [val_lim, val_lim] at AD; replace AD := mK AD)
            | (replace tok : Tok 13 := nxT 12 tok; go_at_call 130; refine AD.out.mono ?_; rintro e w7 ⟨v, q, rfl, hv, okq, hlq, hvq, hx⟩; (have hE7 := mK ((hE5.out.al (.cells #[.int .u32 (P : Int)] 140)).trans hx)); (obtain ⟨a2, c2, rfl, hc2, hr2⟩ := MagO.r hv); (have hVL := MagO.lim hv okq); rw [hvq] at hVL; (have TQ := rtrim_c a2 q c2 w7 okq (by have := dec_smallK hP.out (nR _); rw [List.length_take] at this; omega) hc2 hr2); rw [hvq] at TQ; replace TQ := mK TQ; replace hVL := mK (MagO.r hVL); clear hv okq hlq hx hr2 hc2)
            | (replace tok : Tok 14 := nxT 13 tok; go_at_call 129; refine TQ.out.mono ?_; rintro e w8 ⟨rfl, hw8⟩; rw [← hw8]; clear hw8))
           go_roundw
           case measure => simp [intOf]; have := hM.out; omega
           case rel => exact ⟨M, m * F + P, hjk, rfl, e4.out, hVL.out, hE7.out⟩
         ·have hk0 : 0 < k := by omega
          have hFb : F ≤ 1000000000 := by rw [hF]; exact Nat.pow_le_pow_right (by omega) (show k ≤ 9 by omega)
          have hPF : P < F := by
           have h1 := Lib.decFrom_lt _ _ _ hP
           have h2 : ((ds.drop j).take k).length = k := by rw [List.length_take, List.length_drop]; omega
           rw [h2, ← hF] at h1
           omega
          obtain ⟨m2, p2, e1, e2, -, e4⟩ := decFrom_split ds N j k hN.out (by omega)
          rw [hm.out] at e1
          rw [hP] at e2
          obtain rfl := Option.some.inj e1
          obtain rfl := Option.some.inj e2
          rw [← hF, ← hM] at e4
          have hml : (lim m).length ≤ 65536 := dec_smallK hm.out (by rw [List.length_take]; omega)
          have KT := rtimes_c a c (lim m) F w4 (by omega) (lim_ok m) (by omega) (hrow.out.ext hE4.out)
          rw [val_lim] at KT
          have hmF : (lim (m * F)).length ≤ 65537 := by
           have := nl_small_mul (D := m) (m := F) (by omega)
           omega
          have hE34 := mK (hE3.out.trans hE4.out)
          clear e1 e2
          replace KT := mK KT
          replace e4 := mK e4
          replace hF := mK hF
          replace hM := mK hM
          replace hP := mK hP
          have tok : Tok 10 := .mk _
          go_wp2_with (first
           | (replace tok : Tok 11 := nxT 10 tok; go_at_call 131; refine KT.out.mono ?_; rintro e w5 ⟨v, rfl, hv, hx⟩; (have hE5 := mK (hE34.out.trans hx)); (obtain ⟨a1, c1, rfl, hc1, hr1⟩ := MagO.r hv); (have okP : OkL [P] := fun x hx => by rw [List.mem_singleton.1 hx]; omega); (have TR := rtrim_c (some ⟨w5.heap.size, 0, none⟩) [P] 1 _ okP (by simp) (by simp) (row_one w5 140 P)); rw [val_one, List.length_singleton] at TR; (have hrP := (row_one w5 140 P).lim okP); rw [val_one] at hrP; replace hrP := mK hrP; replace hr1 := mK hr1; replace TR := mK TR; clear okP; clear hv hx)
           | (replace tok : Tok 12 := nxT 11 tok; go_at_call 129; refine TR.out.mono ?_; rintro e w6 ⟨rfl, hw6⟩; rw [← hw6]; clear hw6; (have AD := radd_c a1 (some ⟨w5.heap.size, 0, none⟩) c1 1 (lim (m * F)) (lim P) _ (by omega) (nT (dec_smallK hP.out (nR _)) (by rw [List.length_take, List.length_drop]; omega)) (lim_ok _) (lim_ok _) (hr1.out.ext ((xR w5).al (.cells #[.int .u32 (P : Int)] 140))) hrP.out); rw [val_lim, val_lim] at AD; replace AD := mK AD)
           | (replace tok : Tok 13 := nxT 12 tok; go_at_call 130; refine AD.out.mono ?_; rintro e w7 ⟨v, q, rfl, hv, okq, hlq, hvq, hx⟩; (have hE7 := mK ((hE5.out.al (.cells #[.int .u32 (P : Int)] 140)).trans hx)); (obtain ⟨a2, c2, rfl, hc2, hr2⟩ := MagO.r hv); (have hVL := MagO.lim hv okq); rw [hvq] at hVL; (have TQ := rtrim_c a2 q c2 w7 okq (by have := dec_smallK hP.out (nR _); rw [List.length_take] at this; omega) hc2 hr2); rw [hvq] at TQ; replace TQ := mK TQ; replace hVL := mK (MagO.r hVL); clear hv okq hlq hx hr2 hc2)
           | (replace tok : Tok 14 := nxT 13 tok; go_at_call 129; refine TQ.out.mono ?_; rintro e w8 ⟨rfl, hw8⟩; rw [← hw8]; clear hw8))
          go_roundw
          case measure => simp [intOf]; have := hM.out; omega
          case rel => exact ⟨M, m * F + P, hjk, rfl, e4.out, hVL.out, hE7.out⟩
       ·obtain rfl : j = (s).size := by omega
        rw [List.take_of_length_le (by omega), hN.out] at hm
        obtain rfl := Option.some.inj hm
        have SG := rsigned_c false u7 (lim N) w3 (lim_ok N) (nT (dec_smallK hN.out (nR _)) (by omega)) hM
        rw [val_lim] at SG
        replace SG := mK SG
        replace hE3 := mK (hEr.out.trans hE3)
        clear hm hM
        have tok : Tok 20 := .mk _
        go_wp2_with (first
         | (replace tok : Tok 21 := nxT 20 tok; go_at_call 132; refine SG.out.mono ?_; rintro e w5 ⟨v, rfl, hv, hx⟩; (obtain ⟨vb, va, vn, vc, rfl⟩ := hv.shape); (have hE5 := mK (hE3.out.trans hx)); (have z5 := mK (hE5.out.blk z1.out)); replace hv := mK hv; clear hx)
         | (replace tok : Tok 22 := nxT 21 tok; refine wpList_store_row rfl 50 (.tmp 2) (.tmp 94) rfl w.heap.size #[.bool vb, .slice va vn vc] rfl rfl 50 _ z5.out (by kernel_rfl) rfl (by kernel_rfl) ?_))
        refine bodyPost_ret (results_row_tmp rfl _ _ w.heap.size 50 #[.bool vb, .slice va vn vc] _ _ rfl rfl (setRow_heap _ _ _ _ _ _ z5.out) Tryz.underlying50 rfl (by kernel_rfl)) rfl ?_
        exact ⟨_, _, sg false N, rfl, .inl ⟨hsome.out, rfl⟩, hv.out.flat z5.out (by simp [flatV]) _, (hE1.out.trans hE5.out).row (nR _) _⟩
end Go.Proofs.YtjelnmokcpoofaaGreatDoor
namespace Go.Proofs.YtjelnmokcpoofaaGreatDoor
set_option maxRecDepth 100000
open Go Go.RowKit Go.Proofs Go.Lib
theorem infoByteK : (Tryz.prog.info? 5).map (fun i => (i.zero, i.size, i.bytes)) = some (some (.int .u8 0), 1, 1) := by kernel_rfl
def BytO (w : World) (base : Nat) (v : Value) (l : List UInt8) : Prop := w.ownsRow base 5 1 v l.length (byteCells l)
def DgA (w1 : World) (N k : Nat) (t3 t4 : Value) (wr : World) : Prop :=
 ∃ ps : List Nat, N = val9 ps + 1000000000 ^ ps.length * k ∧ (∀ p ∈ ps, p < 1000000000) ∧ (k = 0 → 0 < ps.getLastD 0) ∧ (lim k).length ≤ 65536 ∧ ps.length ≤ 131073 ∧ MagO wr w1.heap.size t3 ps ∧ MagR wr t4 (lim k) ∧ Ext w1 wr
def DgB (wL : World) (ps : List Nat) (t7 t8 : Value) (wr : World) : Prop :=
 ∃ i : Nat, i ≤ ps.length ∧ t8 = .int .i64 i ∧ BytO wr wL.heap.size t7 (low9 (ps.take i)) ∧ Ext wL wr
def DgC (wL : World) (pre : List UInt8) (p : Nat) (t7 t9 t10 : Value) (wr : World) : Prop :=
 ∃ k : Nat, k ≤ 9 ∧ t10 = .int .i64 k ∧ t9 = .int .u32 ((p / 10 ^ k : Nat) : Int) ∧ BytO wr wL.heap.size t7 (pre ++ (nine p).reverse.take k) ∧ Ext wL wr
theorem nine_rev (p k : Nat) (hk : k < 9) : (nine p).reverse.take (k + 1) = (nine p).reverse.take k ++ [dg p k] := by
 have hl : (nine p).reverse.length = 9 := by simp [nine]
 rw [List.take_succ_eq_append_getElem (by omega)]
 congr 2
 rw [List.getElem_reverse]
 simp [nine]
 congr 1
 omega
theorem low9_snoc (ps : List Nat) (p : Nat) : low9 (ps ++ [p]) = low9 ps ++ (nine p).reverse := by simp [low9]
theorem dg_cell (p k : Nat) : ((dg p k).toNat : Int) = ((p / 10 ^ k : Nat) : Int) % 10 + 48 := by
 unfold dg
 have h : p / 10 ^ k % 10 < 10 := Nat.mod_lt _ (by omega)
 generalize p / 10 ^ k = q at *
 rw [show ((q : Nat) : Int) % 10 = ((q % 10 : Nat) : Int) by simp]
 generalize q % 10 = r at *
 simp
 omega
def swp (L : List UInt8) (i : Nat) (Z : List UInt8) : Prop := Z.length = L.length ∧ ∀ j, j < L.length → Z.getD j 0 = if j < i ∨ L.length - 1 - j < i then L.getD (L.length - 1 - j) 0 else L.getD j 0
theorem swp_start (L : List UInt8) : swp L 0 L := ⟨rfl, fun j _ => by simp⟩
theorem getD_set {l : List UInt8} {i j : Nat} {b : UInt8} (hi : i < l.length) : (l.set i b).getD j 0 = if i = j then b else l.getD j 0 := by
 simp only [List.getD_eq_getElem?_getD, List.getElem?_set]
 by_cases h : i = j
 ·subst h
  simp [hi]
 ·simp [h]
theorem swp_step {L Z : List UInt8} {i : Nat} (h : swp L i Z) (hi : 2 * i < L.length - 1) : swp L (i + 1) ((Z.set i (Z.getD (L.length - 1 - i) 0)).set (L.length - 1 - i) (Z.getD i 0)) := by
 obtain ⟨h1, h2⟩ := h
 refine ⟨by simp [h1], fun j hj => ?_⟩
 have a1 := h2 i (by omega)
 have a2 := h2 (L.length - 1 - i) (by omega)
 rw [if_neg (by omega)] at a1 a2
 rw [getD_set (by rw [List.length_set]; omega), getD_set (by omega), a1, a2]
 by_cases e1 : L.length - 1 - i = j
 ·subst e1
  rw [if_pos rfl, if_pos (by omega)]
  congr 1
  omega
 ·rw [if_neg e1]
  by_cases e2 : i = j
  ·subst e2
   rw [if_pos rfl, if_pos (by omega)]
  ·rw [if_neg e2, h2 j hj]
   by_cases e3 : j < i ∨ L.length - 1 - j < i
   ·rw [if_pos e3, if_pos (by omega)]
   ·rw [if_neg e3, if_neg (by omega)]
theorem swp_end {L Z : List UInt8} {i : Nat} (h : swp L i Z) (hi : L.length - 1 ≤ 2 * i) : Z = L.reverse := by
 obtain ⟨h1, h2⟩ := h
 refine List.ext_getElem (by simp [h1]) fun j hj hj' => ?_
 have hjl : j < L.length := by rw [← h1]; exact hj
 have e := h2 j hjl
 have e1 : Z.getD j 0 = Z[j] := by simp [List.getD_eq_getElem?_getD, hj]
 rw [e1] at e
 rw [e, List.getElem_reverse]
 have e2 : L.getD (L.length - 1 - j) 0 = L[L.length - 1 - j]'(by omega) := by simp [List.getD_eq_getElem?_getD, show L.length - 1 - j < L.length by omega]
 split
 ·exact e2
 ·rename_i hn
  have : L.length - 1 - j = j := by omega
  rw [← e2, this]
def DgE (w1 : World) (L : List UInt8) (g c : Nat) (t11 : Value) (wr : World) : Prop :=
 ∃ (i : Nat) (Z : List UInt8), 2 * i ≤ L.length ∧ t11 = .int .i64 i ∧ swp L i Z ∧ BytO wr w1.heap.size (.slice (some ⟨g, 0, none⟩) L.length c) Z ∧ Ext w1 wr
theorem itoa_rev (X : Int) : itoa X = ((decDigits X.natAbs).reverse ++ (if X < 0 then [45] else [])).reverse := by
 unfold itoa
 by_cases h : X < 0
 ·rw [if_pos h, if_pos h]
  simp
 ·rw [if_neg h, if_neg h, show X.toNat = X.natAbs by omega]
  simp
def lenV : Value → Nat
 | .slice _ n _ => n
 | _ => 0
theorem byt_shape {w : World} {base : Nat} {v : Value} {l : List UInt8} (h : BytO w base v l) (hl : 0 < l.length) : ∃ g c, v = .slice (some ⟨g, 0, none⟩) l.length c ∧ base ≤ g ∧ g < w.heap.size := by
 rcases h.2 with ⟨_, h0⟩ | ⟨g, cap, cur, e, h2, h3, _⟩
 ·omega
 ·exact ⟨g, cap, e, h2, (Array.getElem?_eq_some_iff.1 h3).1⟩
theorem byt_cell {w : World} {base g c : Nat} {l : List UInt8} (h : BytO w base (.slice (some ⟨g, 0, none⟩) l.length c) l) {k : Nat} (hk : k < l.length) : w.cell? ⟨g, k, none⟩ = some (.int .u8 ((l.getD k 0).toNat : Int)) := by
 rw [World.ownsRow.cellAt h k (by omega)]
 simp [byteCells, List.getD_eq_getElem?_getD, hk]
theorem byteCells_set (l : List UInt8) (k : Nat) (b : UInt8) : (byteCells l).set k (.int .u8 (b.toNat : Int)) = byteCells (l.set k b) := by
 simp [byteCells, List.map_set]
def DgD (wL : World) (D : List UInt8) (t7 : Value) (wr : World) : Prop :=
 ∃ j : Nat, D.length + j ≤ 9 * 131073 ∧ BytO wr wL.heap.size t7 (D ++ List.replicate j 48) ∧ Ext wL wr
set_option maxHeartbeats 6400000 in
theorem rdigits_c (v : Value) (X : Int) (w : World) (hX : nl X ≤ 65536) (h : IntR w v X) :
  Calls Tryz.prog 190 #[v] w fun e w' => e = .returned (.string ⟨(itoa X).toArray⟩) ∧ Ext w w' := by
 obtain ⟨i0, hi, hz0, hz1, hz2⟩ := info_parts u32_info
 obtain ⟨b0, bi, bz0, bz1, bz2⟩ := info_parts infoByteK
 obtain ⟨s, rfl, a, c, rfl, hcap, hrow⟩ := h
 obtain ⟨bx, hbx⟩ : ∃ b, b = decide (X < 0) := ⟨_, rfl⟩
 rw [← hbx]
 obtain ⟨w1, hw1⟩ : ∃ w1, w1 = w.alloc (.cells #[.bool bx, .slice a (lim X.natAbs).length c] 50) := ⟨_, rfl⟩
 have hE1 : Ext w w1 := by rw [hw1]; exact (xR w).al _
 have z0 : w1.heap[w.heap.size]? = some (.cells #[.bool bx, .slice a (lim X.natAbs).length c] 50 (0, 0)) := by rw [hw1]; exact heap_alloc_new _ _
 have hlen : (lim X.natAbs).length ≤ 65536 := hX
 have hXb : X.natAbs < 2 ^ (32 * (lim X.natAbs).length) := by
  have := val_lt (lim_ok X.natAbs)
  rw [val_lim, show (4294967296 : Nat) = 2 ^ 32 from rfl, ← Nat.pow_mul] at this
  exact this
 have hrow1 := mK (show MagR w1 (.slice a (lim X.natAbs).length c) (lim X.natAbs) from ⟨a, c, rfl, hcap, hrow.ext hE1⟩)
 have hrev := mK (itoa_rev X)
 have hbx2 : bx = true ↔ X < 0 := by rw [hbx]; exact decide_eq_true_iff
 replace hbx := mK hbx
 replace hbx2 := mK hbx2
 replace hw1 := mK hw1
 replace z0 := mK z0
 replace hE1 := mK hE1
 replace hXb := mK hXb
 clear hrow hcap hX
 have hX0 : X.natAbs = 0 ↔ X = 0 := by omega
 replace hX0 := mK hX0
 generalize hXX : X.natAbs = N at *
 replace hXX := mK hXX
 replace hlen := mK hlen
 have c0 : w1.cell? ⟨w.heap.size, 0, none⟩ = some (.bool bx) := row16_cells z0.out 0
 have c1 : w1.cell? ⟨w.heap.size, 1, none⟩ = some (.slice a (lim N).length c) := row16_cells z0.out 1
 by_cases hN : N = 0
 ·have hz := mK (hX0.out.1 hN)
  have hl0 : (lim N).length = 0 := by rw [hN, lim_zero]; rfl
  clear hrow1
  rw [hl0] at c1 hw1
  go_enter Tryz.func190, Tryz.ntmps190
  rw [hl0]
  go_wp2_with fail
  go_ret
  rw [hz.out, show itoa 0 = [48] by unfold itoa; rw [if_neg (by decide), decDigits, dif_pos (by decide)]; rfl]
  exact ⟨rfl, by rw [← hw1.out]; exact hE1.out⟩
 ·have hlp : ((lim N).length : Int) ≠ 0 := by rw [lim_pos hN]; simp; omega
  have hlpb : (((lim N).length : Int) == 0) = false := by simpa using hlp
  have hlpb2 : ((lim N).length == 0) = false := by simpa using (fun e => hlp (by rw [e]; rfl))
  clear hlp
  replace hN := mK hN
  go_enter Tryz.func190, Tryz.ntmps190
  go_wp2_with fail
  rw [← hw1.out]
  have st : DgA w1 N N (.slice none 0 0) (.slice a (lim N).length c) w1 := ⟨[], by simp [val9], by simp, fun h => absurd h hN.out, hlen.out, by simp, magO_nil _ _, hrow1.out, xR _⟩
  replace st := mK st
  clear hlpb hlpb2 c0 c1 hrow1 hw1
  go_loopg [3, 4] N (fun k t3 t4 wr => DgA w1 N k t3 t4 wr)
  case atStart => exact st.out
  case round =>
   clear st
   obtain ⟨ps, hsum, hps, hlast, hl, hpn, h3, h4, hEr⟩ := hrel
   obtain ⟨w2, rfl⟩ : ∃ w2 : World, w2 = wr := ⟨_, rfl⟩
   by_cases hk0 : gk = 0
   ·subst hk0
    have hne : ps ≠ [] := by
     intro e
     rw [e] at hlast
     exact absurd (hlast rfl) (by simp)
    have hv : N = val9 ps := by rw [hsum]; simp
    obtain ⟨a4, c4, e4, -, -⟩ := h4
    rw [lim_zero, List.length_nil] at e4
    subst e4
    have htx := txt9_val ps hne hps (.inr (hlast rfl))
    rw [← hv] at htx
    obtain ⟨K, hK⟩ := low9_txt ps hne hps
    rw [htx] at hK
    obtain ⟨a3, c3, rfl, hc3, b3, o3, ha3, hcell3⟩ := MagO.r h3
    obtain rfl := ha3 (limV_ne (k := 0) (List.length_pos_iff.2 hne))
    have hd0 : ∃ x r, decDigits N = x :: r ∧ x ≠ 48 := dec_head N (Nat.pos_of_ne_zero hN.out)
    have hpl : 0 < ps.length := List.length_pos_iff.2 hne
    have st : DgB w2 ps (.slice none 0 0) (.int .i64 0) w2 := ⟨0, Nat.zero_le _, rfl, World.ownsRow_nil _ _ _ _, xR _⟩
    replace st := mK st
    replace hps := mK hps
    replace hK := mK hK
    replace hd0 := mK hd0
    replace hcell3 := mK hcell3
    replace hEr := mK hEr
    clear hsum hlast hl h3 hne hv htx hXb ha3
    go_wp2_with fail
    go_loopw [7, 8] (fun t7 t8 wr => DgB w2 ps t7 t8 wr) (fun _ t8 _ => ps.length - (intOf t8).toNat)
    case atStart => exact st.out
    case round =>
     clear st
     obtain ⟨i, hi', rfl, hO, hE⟩ := hrel
     obtain ⟨w3, rfl⟩ : ∃ w3 : World, w3 = wr := ⟨_, rfl⟩
     by_cases hil : i < ps.length
     ·obtain ⟨p, hp⟩ : ∃ p, p = ps.getD i 0 := ⟨_, rfl⟩
      have cP : w3.cell? ⟨b3, o3 + i, none⟩ = some (.int .u32 (p : Int)) := by rw [hp]; exact hE.cell (row_at hcell3.out hil)
      have hpm : p < 1000000000 := hps.out p (by rw [hp]; simp [List.getD_eq_getElem?_getD, hil])
      have htake : ps.take (i + 1) = ps.take i ++ [p] := by
       rw [List.take_succ_eq_append_getElem hil, hp]
       simp [List.getD_eq_getElem?_getD, hil]
      have st2 : DgC w2 (low9 (ps.take i)) p u7 (.int .u32 (p : Int)) (.int .i64 0) w3 := ⟨0, by omega, rfl, by simp, by simpa using hO, hE⟩
      replace st2 := mK st2
      replace htake := mK htake
      have hll : (low9 (ps.take i)).length = 9 * i := by rw [low9_len, List.length_take]; omega
      replace hp := mK hp
      clear hO hE
      go_wp2_with fail
      clear cP
      go_loopw [7, 9, 10] (fun t7 t9 t10 wr => DgC w2 (low9 (ps.take i)) p t7 t9 t10 wr) (fun _ _ t10 _ => 9 - (intOf t10).toNat)
      case atStart => exact st2.out
      case round =>
       clear st2
       obtain ⟨k, hk9, rfl, rfl, hO, hE⟩ := hrel
       obtain ⟨w4, rfl⟩ : ∃ w4 : World, w4 = wr := ⟨_, rfl⟩
       by_cases hk : k < 9
       ·have hk' : (k : Int) < 9 := by omega
        have hdc := dg_cell p k
        have hnr := nine_rev p k hk
        have hll2 : (low9 (ps.take i) ++ (nine p).reverse.take k).length = 9 * i + k := by rw [List.length_append, hll, List.length_take, List.length_reverse]; simp [nine]; omega
        obtain ⟨pre, hpre⟩ : ∃ pre, pre = low9 (ps.take i) ++ (nine p).reverse.take k := ⟨_, rfl⟩
        rw [← hpre] at hO hll2
        obtain ⟨Q, hQ⟩ : ∃ Q, Q = p / 10 ^ k := ⟨_, rfl⟩
        have hQb : Q < 1000000000 := by rw [hQ]; exact Nat.lt_of_le_of_lt (Nat.div_le_self _ _) hpm
        have hQn : Q / 10 = p / 10 ^ (k + 1) := by rw [hQ, Nat.pow_succ, Nat.div_div_eq_div_mul]
        rw [← hQ] at hdc ⊢
        have hQb' : (Q : Int) ≤ 1000000000 := by omega
        replace hO := mK hO
        replace hE := mK hE
        replace hdc := mK hdc
        replace hnr := mK hnr
        replace hpre := mK hpre
        replace hQ := mK hQ
        replace hQn := mK hQn
        replace hll2 := mK hll2
        have hEsz := mK (fun W (e : Ext w2 W) => e.size)
        have tok : Tok 5 := .mk _
        go_wp2_with (replace tok : Tok 6 := nxT 5 tok; at_builtin; refine wpList_append_own_at _ ?ya ?yb ?yc 63 ?yd w2.heap.size 5 b0 (.int .u8 0) 1 1 Tryz.underlying63 bi bz0 bz1 bz2 ?ye ?yf u7 pre.length (byteCells pre) ?yh (World.ownsRow.alloc hO.out (.cells #[.int .u8 (48 + (Q : Int) % 10)] 5)) ⟨w4.heap.size, 0, none⟩ 1 1 [.int .u8 (48 + (Q : Int) % 10)] ?yi ?yj ?zc1 ?zc2 ?zc3 ?zc4 ?zc5 ?_; (case ya => rfl); (case yd => rfl); (case ye => rfl); (case yf => decide); (case yh => rfl); (case yi => rfl); (case yj => rfl); (case zc1 => intro j u hj; rcases j with _ | j; (simp at hj; subst hj; simp [Addr.add]); (simp at hj)); (case zc2 => intro u hu; simp at hu; subst hu; rfl); (case zc3 => have := hll2.out; unfold maxLen; omega); (case zc4 => have := hll2.out; omega); (case zc5 => have := hE.out.size; rw [World.size_alloc]; omega); intro v7 w7 hown7 hgrow7 _ _; (have hE7 := mK ((hE.out.al (.cells #[.int .u8 (48 + (Q : Int) % 10)] 5)).gr hgrow7 (fun k e => (World.ownsRow.lt hO.out k e).1))); replace hown7 := mK hown7; clear hgrow7)
        go_roundw
        case measure => simp [intOf]; omega
        case rel =>
         refine ⟨k + 1, by omega, by go_num, by rw [← hQn.out]; simp, ?_, hE7.out⟩
         have hd := hdc.out
         have ho7 := hown7.out
         rw [hnr.out, ← List.append_assoc, ← hpre.out]
         unfold BytO
         rw [List.length_append, List.length_singleton, byteCells_append]
         have e : byteCells [dg p k] = [.int .u8 (48 + (Q : Int) % 10)] := by
          simp only [byteCells, List.map_cons, List.map_nil, hd]
          rw [Int.add_comm]
         rw [e]
         exact ho7
       ·have hk9' : k = 9 := by omega
        subst hk9'
        have h9 : (nine p).reverse.take 9 = (nine p).reverse := List.take_of_length_le (by simp [nine])
        rw [h9, ← low9_snoc, ← htake.out] at hO
        replace hO := mK hO
        replace hE := mK hE
        go_wp2_with fail
        go_roundw
        case measure => simp [intOf]; omega
        case rel => exact ⟨i + 1, by omega, by go_num, hO.out, hE.out⟩
     ·have hie : i = ps.length := by omega
      subst hie
      rw [List.take_length, hK.out] at hO
      have hKl : (decDigits N).reverse.length + K ≤ 9 * 131073 := by
       have e := congrArg List.length hK.out
       rw [low9_len, List.length_append, List.length_replicate] at e
       omega
      have st3 : DgD w2 ((decDigits N).reverse) u7 w3 := ⟨K, hKl, hO, hE⟩
      replace st3 := mK st3
      clear hKl
      clear hO hE hil hi'
      go_wp2_with fail
      have hDn : 0 < (decDigits N).reverse.length := by
       obtain ⟨x, r, e, -⟩ := hd0.out
       rw [e]
       simp
      have hDl : (decDigits N).reverse.length ≤ 9 * 131073 := by
       have e := congrArg List.length hK.out
       rw [low9_len, List.length_append] at e
       omega
      have hlast : (decDigits N).reverse.getD ((decDigits N).reverse.length - 1) 0 ≠ 48 := by
       obtain ⟨x, r, e, hx⟩ := hd0.out
       rw [e]
       simp [List.getD_eq_getElem?_getD]
       exact hx
      generalize hDD : (decDigits N).reverse = D at *
      go_loopw [7] (fun t7 wr => DgD w2 D t7 wr) (fun t7 _ => lenV t7)
      case atStart => exact st3.out
      case round =>
       clear st3
       obtain ⟨j, hjb, hO, hE⟩ := hrel
       obtain ⟨w4, rfl⟩ : ∃ w4 : World, w4 = wr := ⟨_, rfl⟩
       cases j with
       | succ j =>
        have hgd : (D ++ List.replicate (j + 1) 48).getD (D.length + j) 0 = 48 := by simp [List.getD_eq_getElem?_getD]
        have htk : (byteCells (D ++ List.replicate (j + 1) 48)).take (D.length + j) = byteCells (D ++ List.replicate j 48) := by
         rw [List.replicate_succ', ← List.append_assoc, byteCells_append, List.take_left' (by rw [byteCells_length, List.length_append, List.length_replicate])]
        have hln : (D ++ List.replicate (j + 1) 48).length = D.length + j + 1 := by simp; omega
        obtain ⟨L1, hL1⟩ : ∃ L1, L1 = D ++ List.replicate (j + 1) 48 := ⟨_, rfl⟩
        rw [← hL1] at hO hgd htk hln
        obtain ⟨g, c7, rfl, hg, hgl⟩ := byt_shape hO (by omega)
        have cl := byt_cell hO (k := D.length + j) (by omega)
        rw [hgd] at cl
        have htake := ownsRow_take hO (m := D.length + j) (by omega)
        rw [htk] at htake
        obtain ⟨M, hM⟩ : ∃ M, M = D.length + j := ⟨_, rfl⟩
        rw [← hM] at cl htake hln
        have hLi : ((L1.length : Int) - 1) = (M : Int) := by omega
        have hLi2 : (M : Int) < (L1.length : Int) := by omega
        have hnew : DgD w2 D (.slice (some ⟨g, 0, none⟩) M c7) w4 := ⟨j, by omega, by unfold BytO; rw [List.length_append, List.length_replicate, ← hM]; exact htake, hE⟩
        have hLM : M < L1.length := by omega
        have hMb : M < 1179657 := by omega
        replace hnew := mK hnew
        have hcc := World.ownsRow.lt hO g rfl
        have hcap : L1.length ≤ c7 := by
         obtain ⟨-, h | ⟨g', cap, cur, e, -, -, h5, -⟩⟩ := hO
         ·cases h.1
         ·simp only [Value.slice.injEq] at e
          omega
        replace hO := mK hO
        replace hE := mK hE
        replace hM := mK hM
        clear hgd htk hL1 htake hln
        go_wp2_with fail
        go_roundw
        case measure => simp [lenV]; omega
        case rel => exact hnew.out
       | zero =>
        rw [List.replicate_zero, List.append_nil] at hO
        obtain ⟨g, c7, rfl, hg, hgl⟩ := byt_shape hO hDn
        obtain ⟨M, hM⟩ : ∃ M, D.length = M + 1 := ⟨D.length - 1, by omega⟩
        have cl := byt_cell hO (k := M) (by omega)
        rw [hM, Nat.add_sub_cancel] at hlast
        have hLi : ((D.length : Int) - 1) = (M : Int) := by omega
        have hLi2 : (M : Int) < (D.length : Int) := by omega
        have hb48 : (((D.getD M 0).toNat : Int) == 48) = false := by
         rw [beq_eq_false_iff_ne]
         intro e
         exact hlast (UInt8.toNat_inj.1 (show (D.getD M 0).toNat = (48 : UInt8).toNat by rw [show (48 : UInt8).toNat = 48 from rfl]; omega))
        obtain ⟨BV, hBV⟩ : ∃ BV : Int, BV = ((D.getD M 0).toNat : Int) := ⟨_, rfl⟩
        rw [← hBV] at cl hb48
        have cS := (hEr.out.trans hE).cell (row16_cells z0.out 0)
        replace cS : w4.cell? ⟨w.heap.size, 0, none⟩ = some (.bool bx) := cS
        replace hBV := mK hBV
        replace hM := mK hM
        clear hlast
        cases bx with
        | false =>
         have hX : ¬ X < 0 := fun h => by have := hbx2.out.2 h; cases this
         have hfin : Ending.returned (.string ⟨(D.reverse).toArray⟩) = .returned (.string ⟨(itoa X).toArray⟩) := by
          rw [hrev.out, if_neg hX, List.append_nil]
         replace hfin := mK hfin
         have ho9 := mK hO
         have hE9 := mK hE
         clear hO hE
         go_wp2_with fail
         replace ho9 := ho9.out
         replace hE9 := hE9.out
         replace hfin := hfin.out
         obtain ⟨w9, rfl⟩ : ∃ w9 : World, w9 = w4 := ⟨_, rfl⟩
         have hLb : D.length ≤ 1179658 := by omega
         clear hLi hLi2 cl hb48 hBV hM cS hjb
         have st : DgE w2 D g c7 (.int .i64 0) w9 := ⟨0, D, by omega, rfl, swp_start _, ho9, hE9⟩
         replace st := mK st
         replace hfin := mK hfin
         clear ho9 hE9
         go_loopw [11] (fun t11 wr => DgE w2 D g c7 t11 wr) (fun t11 _ => D.length - (intOf t11).toNat)
         case atStart => exact st.out
         case round =>
          clear st
          obtain ⟨i, Z, hi, rfl, hsw, ho, hE⟩ := hrel
          obtain ⟨wz, rfl⟩ : ∃ wz : World, wz = wr := ⟨_, rfl⟩
          have hZl : Z.length = D.length := hsw.1
          by_cases hlt : 2 * i < D.length - 1
          ·obtain ⟨m, hm⟩ : ∃ m, m = D.length - 1 - i := ⟨_, rfl⟩
           have hmi : ((D.length : Int) - 1 - (i : Int)) = (m : Int) := by omega
           have hlt' : 2 * (i : Int) < (D.length : Int) - 1 := by omega
           have hiL : i < D.length := by omega
           have hmL : m < D.length := by omega
           have him : i ≠ m := by omega
           rw [← hZl] at ho
           have cA := byt_cell ho (k := i) (by omega)
           have cB := byt_cell ho (k := m) (by omega)
           have fA := World.ownsRow.frozenAt ho i
           have fB := World.ownsRow.frozenAt ho m
           have hnext := swp_step hsw hlt
           rw [← hm] at hnext
           obtain ⟨h1, -⟩ := World.ownsRow.stored ho i (.int .u8 ((Z.getD m 0).toNat : Int))
           obtain ⟨h2, -⟩ := World.ownsRow.stored h1 m (.int .u8 ((Z.getD i 0).toNat : Int))
           rw [byteCells_set, byteCells_set] at h2
           have hoN := mK (show BytO ((wz.setCell ⟨g, i, none⟩ (.int .u8 ((Z.getD m 0).toNat : Int))).setCell ⟨g, m, none⟩ (.int .u8 ((Z.getD i 0).toNat : Int))) w2.heap.size (.slice (some ⟨g, 0, none⟩) D.length c7) ((Z.set i (Z.getD m 0)).set m (Z.getD i 0)) by unfold BytO; rw [List.length_set, List.length_set, hZl]; rw [hZl] at h2; exact h2)
           have hEN := mK ((hE.st (p := ⟨g, i, none⟩) hg (.int .u8 ((Z.getD m 0).toNat : Int))).st (p := ⟨g, m, none⟩) hg (.int .u8 ((Z.getD i 0).toNat : Int)))
           obtain ⟨ZA, hZA⟩ : ∃ ZA : Int, ZA = ((Z.getD i 0).toNat : Int) := ⟨_, rfl⟩
           obtain ⟨ZB, hZB⟩ : ∃ ZB : Int, ZB = ((Z.getD m 0).toNat : Int) := ⟨_, rfl⟩
           rw [← hZA] at cA hoN hEN
           rw [← hZB] at cB hoN hEN
           replace hnext := mK hnext
           replace hsw := mK hsw
           replace ho := mK ho
           replace hE := mK hE
           replace hm := mK hm
           replace hZA := mK hZA
           replace hZB := mK hZB
           replace hZl := mK hZl
           clear h1 h2
           go_wp2_with fail
           refine ⟨⟨i + 1, _, by omega, by go_num, hnext.out, hoN.out, hEN.out⟩, by simp [intOf]; omega⟩
          ·have hlt' : ¬ 2 * (i : Int) < (D.length : Int) - 1 := by omega
           have hZ := swp_end hsw (by omega)
           rw [← hZl] at ho
           have kc : (convert 63 9 (.slice (some ⟨g, 0, none⟩) Z.length c7)).run Tryz.prog wz = .ok (.string ⟨Z.toArray⟩) wz := run_convert_bytes_back wz _ _ 5 ⟨g, 0, none⟩ c7 Z Tryz.underlying63 Tryz.underlying5 Tryz.underlying9 (fun j hj => by
            have := byt_cell ho hj
            have e : (if j = 0 then (⟨g, 0, none⟩ : Addr) else ⟨g, j, none⟩) = ⟨g, j, none⟩ := by
             split
             ·rename_i h0
              rw [h0]
             ·rfl
            simp only [Addr.add, Nat.zero_add]
            rw [e, this]
            simp [List.getD_eq_getElem?_getD, hj])
           rw [hZl] at kc
           replace hZ := mK hZ
           replace hE := mK hE
           replace hsw := mK hsw
           replace ho := mK ho
           replace hZl := mK hZl
           go_wp2_with fail
           go_ret
           exact ⟨by rw [hZ.out]; exact hfin.out, (hE1.out.trans hEr.out).trans hE.out⟩
        | true =>
         have hX : X < 0 := hbx2.out.1 rfl
         have hfin : Ending.returned (.string ⟨((D ++ [45]).reverse).toArray⟩) = .returned (.string ⟨(itoa X).toArray⟩) := by
          rw [hrev.out, if_pos hX]
         replace hfin := mK hfin
         have ho8 := mK hO
         have hE8 := mK hE
         clear hO hE
         have tok : Tok 7 := .mk _
         go_wp2_with (replace tok : Tok 8 := nxT 7 tok; at_builtin; refine wpList_append_own_at _ ?ma ?mb ?mc 63 ?md w2.heap.size 5 b0 (.int .u8 0) 1 1 Tryz.underlying63 bi bz0 bz1 bz2 ?me ?mf (.slice (some ⟨g, 0, none⟩) D.length c7) D.length (byteCells D) ?mh (World.ownsRow.alloc ho8.out (.cells #[.int .u8 45] 5)) ⟨w4.heap.size, 0, none⟩ 1 1 [.int .u8 45] ?mi ?mj ?nc1 ?nc2 ?nc3 ?nc4 ?nc5 ?_; (case ma => rfl); (case md => rfl); (case me => rfl); (case mf => decide); (case mh => rfl); (case mi => rfl); (case mj => rfl); (case nc1 => intro j u hj; rcases j with _ | j; (simp at hj; subst hj; simp [Addr.add]); (simp at hj)); (case nc2 => intro u hu; simp at hu; subst hu; rfl); (case nc3 => unfold maxLen; omega); (case nc4 => omega); (case nc5 => have := hE8.out.size; rw [World.size_alloc]; omega); intro v7 w9 hown7 hgrow7 _ _; (have hE9 := mK ((hE8.out.al (.cells #[.int .u8 45] 5)).gr hgrow7 (fun k e => (World.ownsRow.lt ho8.out k e).1))); replace hown7 := mK hown7; clear hgrow7)
         have ho9 : BytO w9 w2.heap.size v7 (D ++ [45]) := by
          unfold BytO
          rw [List.length_append, List.length_singleton, byteCells_append]
          exact hown7.out
         replace hE9 := hE9.out
         replace hfin := hfin.out
         have hLb : (D ++ [45]).length ≤ 1179658 := by rw [List.length_append, List.length_singleton]; omega
         have hLn : 0 < (D ++ [45]).length := by simp
         obtain ⟨L, hL⟩ : ∃ L, L = D ++ [45] := ⟨_, rfl⟩
         rw [← hL] at ho9 hfin hLb hLn
         obtain ⟨g9, c9, rfl, hg9, hg9l⟩ := byt_shape ho9 hLn
         replace hL := mK hL
         clear hLi hLi2 cl hb48 hBV hM cS hjb hown7 ho8 hE8
         have st : DgE w2 L g9 c9 (.int .i64 0) w9 := ⟨0, L, by omega, rfl, swp_start _, ho9, hE9⟩
         replace st := mK st
         replace hfin := mK hfin
         clear ho9 hE9
         go_loopw [11] (fun t11 wr => DgE w2 L g9 c9 t11 wr) (fun t11 _ => L.length - (intOf t11).toNat)
         case atStart => exact st.out
         case round =>
          clear st
          obtain ⟨i, Z, hi, rfl, hsw, ho, hE⟩ := hrel
          obtain ⟨wz, rfl⟩ : ∃ wz : World, wz = wr := ⟨_, rfl⟩
          have hZl : Z.length = L.length := hsw.1
          by_cases hlt : 2 * i < L.length - 1
          ·obtain ⟨m, hm⟩ : ∃ m, m = L.length - 1 - i := ⟨_, rfl⟩
           have hmi : ((L.length : Int) - 1 - (i : Int)) = (m : Int) := by omega
           have hlt' : 2 * (i : Int) < (L.length : Int) - 1 := by omega
           have hiL : i < L.length := by omega
           have hmL : m < L.length := by omega
           have him : i ≠ m := by omega
           rw [← hZl] at ho
           have cA := byt_cell ho (k := i) (by omega)
           have cB := byt_cell ho (k := m) (by omega)
           have fA := World.ownsRow.frozenAt ho i
           have fB := World.ownsRow.frozenAt ho m
           have hnext := swp_step hsw hlt
           rw [← hm] at hnext
           obtain ⟨h1, -⟩ := World.ownsRow.stored ho i (.int .u8 ((Z.getD m 0).toNat : Int))
           obtain ⟨h2, -⟩ := World.ownsRow.stored h1 m (.int .u8 ((Z.getD i 0).toNat : Int))
           rw [byteCells_set, byteCells_set] at h2
           have hoN := mK (show BytO ((wz.setCell ⟨g9, i, none⟩ (.int .u8 ((Z.getD m 0).toNat : Int))).setCell ⟨g9, m, none⟩ (.int .u8 ((Z.getD i 0).toNat : Int))) w2.heap.size (.slice (some ⟨g9, 0, none⟩) L.length c9) ((Z.set i (Z.getD m 0)).set m (Z.getD i 0)) by unfold BytO; rw [List.length_set, List.length_set, hZl]; rw [hZl] at h2; exact h2)
           have hEN := mK ((hE.st (p := ⟨g9, i, none⟩) hg9 (.int .u8 ((Z.getD m 0).toNat : Int))).st (p := ⟨g9, m, none⟩) hg9 (.int .u8 ((Z.getD i 0).toNat : Int)))
           obtain ⟨ZA, hZA⟩ : ∃ ZA : Int, ZA = ((Z.getD i 0).toNat : Int) := ⟨_, rfl⟩
           obtain ⟨ZB, hZB⟩ : ∃ ZB : Int, ZB = ((Z.getD m 0).toNat : Int) := ⟨_, rfl⟩
           rw [← hZA] at cA hoN hEN
           rw [← hZB] at cB hoN hEN
           replace hnext := mK hnext
           replace hsw := mK hsw
           replace ho := mK ho
           replace hE := mK hE
           replace hm := mK hm
           replace hZA := mK hZA
           replace hZB := mK hZB
           replace hZl := mK hZl
           clear h1 h2
           go_wp2_with fail
           refine ⟨⟨i + 1, _, by omega, by go_num, hnext.out, hoN.out, hEN.out⟩, by simp [intOf]; omega⟩
          ·have hlt' : ¬ 2 * (i : Int) < (L.length : Int) - 1 := by omega
           have hZ := swp_end hsw (by omega)
           rw [← hZl] at ho
           have kc : (convert 63 9 (.slice (some ⟨g9, 0, none⟩) Z.length c9)).run Tryz.prog wz = .ok (.string ⟨Z.toArray⟩) wz := run_convert_bytes_back wz _ _ 5 ⟨g9, 0, none⟩ c9 Z Tryz.underlying63 Tryz.underlying5 Tryz.underlying9 (fun j hj => by
            have := byt_cell ho hj
            have e : (if j = 0 then (⟨g9, 0, none⟩ : Addr) else ⟨g9, j, none⟩) = ⟨g9, j, none⟩ := by
             split
             ·rename_i h0
              rw [h0]
             ·rfl
            simp only [Addr.add, Nat.zero_add]
            rw [e, this]
            simp [List.getD_eq_getElem?_getD, hj])
           rw [hZl] at kc
           replace hZ := mK hZ
           replace hE := mK hE
           replace hsw := mK hsw
           replace ho := mK ho
           replace hZl := mK hZl
           go_wp2_with fail
           go_ret
           exact ⟨by rw [hZ.out]; exact hfin.out, (hE1.out.trans hEr.out).trans hE.out⟩
   ·obtain ⟨a4, c4, rfl, hc4, hr4⟩ := h4
    have SH := rshort_c a4 c4 (lim gk) 1000000000 w2 (by omega) (lim_ok _) (by omega) (by omega) hr4
    rw [val_lim] at SH
    have hlk : 0 < ((lim gk).length : Int) := by rw [lim_pos hk0]; simp <;> omega
    have hpb := parts_bound hsum (Nat.pos_of_ne_zero hk0) hXb.out
    have hql : (lim (gk / 1000000000)).length ≤ 65536 := nT (lim_mono (Nat.div_le_self _ _)) hl
    obtain ⟨r, hr⟩ : ∃ r, r = gk % 1000000000 := ⟨_, rfl⟩
    have hr9 : r < 1000000000 := by rw [hr]; exact Nat.mod_lt _ (by omega)
    rw [← hr] at SH
    obtain ⟨q, hq⟩ : ∃ q, q = gk / 1000000000 := ⟨_, rfl⟩
    rw [← hq] at SH hql
    have hdm : gk = 1000000000 * q + r := by rw [hq, hr]; exact (Nat.div_add_mod _ _).symm
    replace SH := mK SH
    have h3lt := mK (fun k e => World.ownsRow.lt h3 k e)
    replace h3 := mK h3
    replace hsum := mK hsum
    replace hps := mK hps
    replace hEr := mK hEr
    replace hdm := mK hdm
    replace hql := mK hql
    have hlen2 := mK hlen.out
    clear hr4 hlast hr hq
    have tok : Tok 0 := .mk _
    go_wp2_with (first
     | (replace tok : Tok 1 := nxT 0 tok; go_at_call 219; refine SH.out.mono ?_; rintro e w3 ⟨v, rfl, hv, hx⟩; (have h33 := mK (h3.out.ext hx)); (have hE3 := mK (hEr.out.trans hx)); (have hs23 := mK hx.size); replace hv := mK hv; clear hx)
     | (replace tok : Tok 2 := nxT 1 tok; at_builtin; refine wpList_append_own_at _ ?oa ?ob ?oc 48 ?od w1.heap.size 140 i0 (.int .u32 0) 1 4 Tryz.underlying48 hi hz0 hz1 hz2 ?oe ?of u3 ps.length (limV ps) ?oh (World.ownsRow.alloc h33.out (.cells #[.int .u32 (r : Int)] 140)) ⟨w3.heap.size, 0, none⟩ 1 1 [.int .u32 (r : Int)] ?oi ?oj ?oc1 ?oc2 ?oc3 ?oc4 ?oc5 ?_; (case oa => rfl); (case od => rfl); (case oe => rfl); (case of => decide); (case oh => rfl); (case oi => rfl); (case oj => rfl); (case oc1 => intro j u hj; rcases j with _ | j; (simp at hj; subst hj; simp [Addr.add]); (simp at hj)); (case oc2 => intro u hu; simp at hu; subst hu; rfl); (case oc3 => have := hlen2.out; unfold maxLen; omega); (case oc4 => have := hlen2.out; omega); (case oc5 => have := hE3.out.size; rw [World.size_alloc]; omega); intro v5 w5 hown5 hgrow5 _ _; (have hE5 := mK ((hE3.out.al (.cells #[.int .u32 (r : Int)] 140)).gr hgrow5 (fun k e => (h3lt.out k e).1))); (have hv5 := mK (World.ownsRow.kept (World.ownsRow.alloc hv.out (.cells #[.int .u32 (r : Int)] 140)) hgrow5 (by
        cases hob : v.ownBlock with
        | none => exact .inl rfl
        | some g =>
         refine .inr ?_
         intro e
         have h1 := (World.ownsRow.lt hv.out g hob).1
         have h2 := (h3lt.out g e.symm).2
         omega))); replace hown5 := mK hown5; clear hgrow5))
    have hlt : q < gk := by have := hdm.out; omega
    have hnew : DgA w1 N q v5 v w5 := by
     refine ⟨ps ++ [r], ?_, ?_, ?_, hql.out, ?_, ?_, MagO.r (base := w2.heap.size) hv5.out, hE5.out⟩
     ·rw [val9_snoc, List.length_append, List.length_singleton, Nat.pow_succ]
      have := hsum.out
      rw [hdm.out] at this
      rw [this]
      grind
     ·intro x hx
      rcases List.mem_append.1 hx with h | h
      ·exact hps.out x h
      ·rw [List.mem_singleton.1 h]
       exact hr9
     ·intro h0
      rw [List.getLastD_concat]
      have := hdm.out
      omega
     ·rw [List.length_append, List.length_singleton]
      have := hlen2.out
      omega
     ·unfold MagO
      rw [List.length_append, List.length_singleton, show limV (ps ++ [r]) = limV ps ++ [.int .u32 (r : Int)] by simp [limV]]
      exact hown5.out
    go_roundg q
    case measure => exact hlt
    case rel => exact hnew
theorem den_one (x : Rat) (b : Bool) (h : decide (x.den = 1) = b) : ((⟨(itoa (x.den : Int)).toArray⟩ : ByteArray).toList == [49]) = b := by
 rw [← h, ByteArray.toList_eq, Bool.eq_iff_iff]
 simp only [beq_iff_eq, decide_eq_true_eq]
 have e1 : itoa 1 = [49] := by unfold itoa; rw [if_neg (by decide), decDigits, dif_pos (by decide)]; rfl
 constructor
 ·intro e
  have e' : itoa (x.den : Int) = itoa 1 := by rw [e1]; exact e
  have := readI_itoa (x.den : Int)
  rw [e', readI_itoa 1] at this
  have := Option.some.inj this
  omega
 ·intro e
  rw [e]
  exact e1
theorem rratDigits_c (v : Value) (x : Rat) (w : World) (hX : nf x ≤ 65536) (h : FracR w v x) :
  Calls Tryz.prog 138 #[v] w fun e w' => e = .returned (.string ⟨(ratText x).toArray⟩) ∧ Ext w w' := by
 have H := h
 obtain ⟨x1, x2, x3, x4, y1, y2, y3, y4, rfl⟩ := h.shape
 have hn : nl x.num ≤ 65536 := nT (Nat.le_max_left _ _) hX
 have hd : nl (x.den : Int) ≤ 65536 := nT (Nat.le_max_right _ _) hX
 have L1 := (show ¬ 9223372036854775807 < (itoa x.num).length + 1 by have := itoa_len x.num; omega)
 have L2 := (show ¬ 9223372036854775807 < (itoa x.num).length + 1 + (itoa (x.den : Int)).length by have := itoa_len x.num; have := itoa_len (x.den : Int); omega)
 have HN := mK (fun W (e : Ext w W) => rdigits_c (.agg #[.bool x1, .slice x2 x3 x4]) x.num W hn (H.ext e).num)
 have HD := mK (fun W (e : Ext w W) => rdigits_c (.agg #[.bool y1, .slice y2 y3 y4]) (x.den : Int) W hd (H.ext e).den)
 clear h H hX hn hd
 obtain ⟨wb, hwb⟩ : ∃ wb, wb = w.alloc (.cells #[.bool x1, .slice x2 x3 x4, .bool y1, .slice y2 y3 y4] 52) := ⟨_, rfl⟩
 have hE : Ext w wb := by rw [hwb]; exact (xR w).al _
 have c2 : ∀ W, Ext wb W → W.cell? ⟨w.heap.size, 2, none⟩ = some (.bool y1) := fun W e => e.cell (by rw [hwb]; go_simp)
 have c3 : ∀ W, Ext wb W → W.cell? ⟨w.heap.size, 3, none⟩ = some (.slice y2 y3 y4) := fun W e => e.cell (by rw [hwb]; go_simp)
 replace c2 := mK c2
 replace c3 := mK c3
 replace hE := mK hE
 replace hwb := mK hwb
 by_cases hx1 : x.den = 1
 ·have hrt := mK (show ratText x = itoa x.num by simp [ratText, hx1])
  have hB := den_one x true (decide_eq_true hx1)
  clear hx1 L1 L2
  obtain ⟨A, hA⟩ : ∃ A : ByteArray, A = ⟨(itoa x.num).toArray⟩ := ⟨_, rfl⟩
  obtain ⟨B, hBB⟩ : ∃ B : ByteArray, B = ⟨(itoa (x.den : Int)).toArray⟩ := ⟨_, rfl⟩
  rw [← hBB] at hB HD
  rw [← hA] at HN
  replace hA := mK hA
  replace hBB := mK hBB
  go_enter Tryz.func138, Tryz.ntmps138
  have tok : Tok 0 := .mk _
  go_wp2_with (first
   | (replace tok : Tok 1 := nxT 0 tok; go_at_call 190; rw [← hwb.out]; refine (HN.out _ hE.out).mono ?_; rintro e w2 ⟨rfl, h2⟩; (have d2 := c2.out w2 h2); (have d3 := c3.out w2 h2); replace h2 := mK h2)
   | (replace tok : Tok 2 := nxT 1 tok; go_at_call 190; refine (HD.out _ (hE.out.trans h2.out)).mono ?_; rintro e w3 ⟨rfl, h3⟩; replace h3 := mK h3))
  go_ret
  rw [hrt.out, hA.out]
  exact ⟨rfl, (hE.out.trans h2.out).trans h3.out⟩
 ·have hrt := mK (show ratText x = itoa x.num ++ 47 :: itoa (x.den : Int) by simp [ratText, hx1])
  have hB := den_one x false (decide_eq_false hx1)
  clear hx1
  obtain ⟨A, hA⟩ : ∃ A : ByteArray, A = ⟨(itoa x.num).toArray⟩ := ⟨_, rfl⟩
  obtain ⟨B, hBB⟩ : ∃ B : ByteArray, B = ⟨(itoa (x.den : Int)).toArray⟩ := ⟨_, rfl⟩
  have sA : A.size = (itoa x.num).length := by rw [hA]; rfl
  have sB : B.size = (itoa (x.den : Int)).length := by rw [hBB]; rfl
  rw [← sA] at L1
  rw [← sA, ← sB] at L2
  rw [← hBB] at hB HD
  rw [← hA] at HN
  replace hA := mK hA
  replace hBB := mK hBB
  have M1 : A.size + 1 ≤ 9223372036854775807 := by omega
  have M2 : A.size + 1 + B.size ≤ 9223372036854775807 := by omega
  clear sA sB
  go_enter Tryz.func138, Tryz.ntmps138
  have tok : Tok 0 := .mk _
  go_wp2_with (first
   | (replace tok : Tok 1 := nxT 0 tok; go_at_call 190; rw [← hwb.out]; refine (HN.out _ hE.out).mono ?_; rintro e w2 ⟨rfl, h2⟩; (have d2 := c2.out w2 h2); (have d3 := c3.out w2 h2); replace h2 := mK h2)
   | (replace tok : Tok 2 := nxT 1 tok; go_at_call 190; refine (HD.out _ (hE.out.trans h2.out)).mono ?_; rintro e w3 ⟨rfl, h3⟩; replace h3 := mK h3))
  go_ret
  rw [hrt.out, hA.out, hBB.out, show (⟨#[47]⟩ : ByteArray) = ⟨([47] : List UInt8).toArray⟩ from rfl, str_cat, str_cat, List.append_assoc]
  exact ⟨rfl, (hE.out.trans h2.out).trans h3.out⟩
end Go.Proofs.YtjelnmokcpoofaaGreatDoor
