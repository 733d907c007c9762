/-
  Peaks, for GratingTops: math.IsNaN, append of one element, Peaks' contract, SameNumbers.
-/
import Derived.Test.YtbpjggljbkppaaaProg
import Derived.Test.YtbpjggljbkppaaaBase
import Derived.Test.YtbpjggljbkppaaaMem
namespace Go.Proofs.Ytbpjggljbkppaaa
open Go Go.RowKit Go.Proofs
/-- Is it no number? -/
def nanB (a : Nat) : Bool := FloatKind.f64.format.order a a != some .eq
set_option maxHeartbeats 400000 in
theorem isNaN_c (a : Nat) (w : World) : Calls Try.prog 7 #[.float .f64 a] w fun e w' => e = .returned (.bool (nanB a)) ∧ w = w' := by
  go_enter Try.func7, Try.ntmps7
  go_wp2
  go_ret
  exact ⟨rfl, rfl⟩
/-- One more is put behind a list: where it then lies. -/
theorem wpList_append_ran {P : Program} {ops : Array Oper} {rest : List Oper} {o : Oper} {a : Act} {Q : Exit → Act → World → Prop} {w w' : World} {v' vs vx : Value} (hgd : o.guard = none) (s x : Operand) (t : TypeId)
    (ho : o.op = .call { callee := .builtin .append, args := #[s, x], argTypes := #[t, t] }) (hs : a.eval s = vs) (hx : a.eval x = vx)
    (hr : (Builtin.append_ #[t, t] o.type #[vs, vx]).run P w = .ok v' w') (h : wpList P ops Q rest (a.put o.dst v') w') : wpList P ops Q (o :: rest) a w := by
  refine wpList_plain hgd fun K hK => ?_
  unfold Oper.wp execOp
  simp only [ho, resolve, invoke, builtin, Sem.run_bind, Sem.run_pure, Result.andThen_ok, List.map_toArray, List.map_cons, List.map_nil, hs, hx, hr]
  exact hK _ _ h
theorem append_one {P : Program} (w : World) (base : Nat) (t ty e : TypeId) (i : TypeInfo) (z : Value) (size bytes : Nat) (ht : P.underlying t = some (.slice e)) (hi : P.info? e = some i) (hz : i.zero = some z)
    (hsize : i.size = size) (hby : i.bytes = bytes) (hzs : z.cells.size = size) (hsz : 0 < size)
    (v : Value) (n : Nat) (xs : List Value) (hown : w.ownsRow base e size v n xs)
    (a : Addr) (m c : Nat) (news : List Value) (hl : news.length = m * size) (hnews : ∀ j u, news[j]? = some u → w.cell? (a.add j) = some u) (h1 : ∀ u ∈ news, u.oneCell' = true)
    (h63 : n + m ≤ maxLen) (hbytes : (n + m) * bytes ≤ 140737488355328) (hbase : base ≤ w.heap.size) (hm : 0 < m) :
    ∃ v' w', (Builtin.append_ #[t, t] ty #[v, .slice (some a) m c]).run P w = .ok v' w' ∧ w'.ownsRow base e size v' (n + m) (xs ++ news) ∧
      ((∃ g cap, v = .slice (some ⟨g, 0, none⟩) n cap ∧ v' = .slice (some ⟨g, 0, none⟩) (n + m) cap ∧ w.grownBy w' (some g)) ∨ (v'.ownBlock = some w.heap.size ∧ w.grownBy w' none)) := by
  subst hsize
  subst hby
  have hsmall : n + m ≤ 9223372036854775807 := by simp only [maxLen] at h63; omega
  have hlen : (xs ++ news).length = (n + m) * i.size := by rw [List.length_append, hown.1, hl, Nat.add_mul]
  have grown : ∀ (old : Nat), old < n + m →
      (w.drew.alloc (.cells (xs.toArray ++ news.toArray ++ Builtin.zeroCells z.cells (grownCap w (n + m) old e - (n + m))) e)).ownsRow base e i.size
        (.slice (some ⟨w.heap.size, 0, none⟩) (n + m) (grownCap w (n + m) old e)) (n + m) (xs ++ news) ∧
      w.grownBy (w.drew.alloc (.cells (xs.toArray ++ news.toArray ++ Builtin.zeroCells z.cells (grownCap w (n + m) old e - (n + m))) e)) none := by
    intro old ho
    have hge := grownCap_ge w (n + m) old e
    have hcm : grownCap w (n + m) old e ≤ maxLen := grownCap_le_maxLen w (n + m) old e h63
    refine ⟨⟨hlen, .inr ⟨w.heap.size, _, _, rfl, hbase, heap_alloc_new w.drew _, hge, hcm, ?_, ?_⟩⟩, ⟨rfl, rfl, rfl, by simp, fun k hk _ => Go.heap_alloc_old w.drew _ hk⟩⟩
    · simp only [Array.size_append, List.size_toArray, size_zeroCells, hzs, hown.1, hl, ← Nat.add_mul]
      congr 1
      omega
    · simp only [Array.toList_append, List.append_assoc]
      rw [← List.append_assoc, ← hlen]
      exact List.take_left
  rcases hown.2 with ⟨rfl, rfl⟩ | ⟨g, cap, cur, rfl, hbg, hg, hnc, hcm, hcs, htake⟩
  · have hx : xs = [] := List.eq_nil_of_length_eq_zero (by simpa using hown.1)
    subst hx
    have hr := run_append_nil (P := P) w t ty e i z ht hi hz a m c news hl hnews (by omega) (by omega) (by have hb := hbytes; simp only [Nat.zero_add] at hb; omega)
    have hgr := grown 0 (by omega)
    simp only [Nat.zero_add, List.nil_append, Array.empty_append] at hgr ⊢
    exact ⟨_, _, hr, hgr.1, .inr ⟨rfl, hgr.2⟩⟩
  · by_cases hroom : n + m ≤ cap
    · obtain ⟨w', r1, r2, r3⟩ := run_append_fits w base t ty e i i.size ht hi rfl g n cap xs hown a m c news hl hnews h1 hroom
      exact ⟨_, w', r1, r2, .inl ⟨g, cap, rfl, rfl, r3⟩⟩
    · have holds : ∀ j u, xs[j]? = some u → w.cell? ((⟨g, 0, none⟩ : Addr).add j) = some u := hown.cells (g := g) rfl
      have hr := run_append_grow (P := P) w t ty e i z ht hi hz ⟨g, 0, none⟩ n cap xs hown.1 holds a m c news hl hnews (by omega) (by omega) (growslice_fits (by omega) hbytes)
      have hgr := grown cap (by omega)
      exact ⟨_, _, hr, hgr.1, .inr ⟨rfl, hgr.2⟩⟩
def flV (x : Nat) : Value := .float .f64 x
theorem flV_get {xs : List Nat} {k : Nat} (h : k < xs.length) : (xs.map flV).getD k undef = .float .f64 (xs.getD k 0) := by simp [h, flV]
theorem flV_ne {xs : List Nat} {k : Nat} (h : k < xs.length) : xs.map flV ≠ [] := by
  intro h0
  have := congrArg List.length h0
  simp at this
  subst this
  simp at h
/-- No number but those is none. -/
def Clean (xs : List Nat) (k : Nat) : Prop := ∀ j, j < k → nanB (xs.getD j 0) = false
theorem clean_any {xs : List Nat} (h : Clean xs xs.length) : xs.any nanB = false := by
  rw [List.any_eq_false]
  intro x hx
  obtain ⟨j, hj, rfl⟩ := List.getElem_of_mem hx
  have := h j hj
  simpa [hj] using this
theorem any_at {xs : List Nat} {k : Nat} (hk : k < xs.length) (h : nanB (xs.getD k 0) = true) : xs.any nanB = true := by
  rw [List.any_eq_true]
  exact ⟨xs[k], List.getElem_mem hk, by simpa [hk] using h⟩
theorem clean_next {xs : List Nat} {k : Nat} (h : Clean xs k) (h2 : nanB (xs.getD k 0) = false) : Clean xs (k + 1) := by
  intro j hj
  by_cases e : j = k
  · subst e; exact h2
  · exact h j (by omega)
set_option maxHeartbeats 800000 in
theorem indexNaN_c (a : Option Addr) (c : Nat) (xs : List Nat) (w : World) (hl : xs.length ≤ 1048576) (h : Row w a (xs.map flV)) :
    Calls Try.prog 13 #[.slice a xs.length c, .func (.func 7) #[] #[]] w fun e w' => ∃ r : Int, e = .returned (.int .i64 r) ∧ decide (0 ≤ r) = xs.any nanB ∧ w = w' := by
  obtain ⟨b, off, ha, hc⟩ := h
  replace ha := mkHid ha
  replace hc := mkHid hc
  go_enter Try.func13, Try.ntmps13
  go_wp2_with fail
  go_loopw [8] (fun i wr => ∃ k : Nat, k ≤ xs.length ∧ i = .int .i64 k ∧ Clean xs k ∧ wr = w) (fun i _ => xs.length - (intOf i).toNat)
  case atStart => exact ⟨0, Nat.zero_le _, rfl, fun j hj => absurd hj (Nat.not_lt_zero _), rfl⟩
  case round =>
    obtain ⟨k, hk, rfl, hcl, rfl⟩ := hrel
    replace hcl := mkHid hcl
    by_cases hlt : k < xs.length
    · have h1 := hc.out k (by simpa using hlt)
      rw [flV_get hlt] at h1
      have hA := ha.out (flV_ne hlt)
      rw [hA]
      replace hA := mkHid hA
      obtain ⟨x, hx⟩ : ∃ x, x = xs.getD k 0 := ⟨_, rfl⟩
      rw [← hx] at h1
      replace hx := mkHid hx
      by_cases hnan : nanB x = true
      · go_wp2_with (go_at_call 7; refine (isNaN_c x _).mono ?_; rintro e w' ⟨rfl, rfl⟩)
        go_ret
        exact ⟨k, rfl, by rw [any_at hlt (by rw [← hx.out]; exact hnan)]; simp, rfl⟩
      · have hnan2 : nanB x = false := by simpa using hnan
        have hnext := mkHid (clean_next hcl.out (by rw [← hx.out]; exact hnan2))
        go_wp2_with (go_at_call 7; refine (isNaN_c x _).mono ?_; rintro e w' ⟨rfl, rfl⟩)
        go_roundw
        case rel => exact ⟨k + 1, by omega, by go_num, hnext.out, by simp⟩
        case measure => simp [intOf] <;> omega
    · obtain rfl : k = xs.length := by omega
      go_wp2_with fail
      go_ret
      exact ⟨-1, rfl, by rw [clean_any hcl.out]; simp, rfl⟩
theorem containsNaN_c (a : Option Addr) (c : Nat) (xs : List Nat) (w : World) (hl : xs.length ≤ 1048576) (h : Row w a (xs.map flV)) :
    Calls Try.prog 11 #[.slice a xs.length c, .func (.func 7) #[] #[]] w fun e w' => e = .returned (.bool (xs.any nanB)) ∧ w = w' := by
  have hi := mkHid (indexNaN_c a c xs w hl h)
  go_enter Try.func11, Try.ntmps11
  go_wp2_with (go_at_call 13; refine hi.out.mono ?_; rintro e w' ⟨r, rfl, hr, rfl⟩)
  go_ret
  exact ⟨by rw [← hr]; rfl, rfl⟩
theorem infoInt : (Try.prog.info? 3).map (fun i => (i.zero, i.size, i.bytes)) = some (some (.int .i64 0), 1, 8) := by kernel_rfl
theorem underInts : Try.prog.underlying 26 = some (.slice 3) := by kernel_rfl
def gtF (a b : Nat) : Bool := FloatKind.f64.format.order a b == some .gt
def topB (xs : List Nat) (i : Nat) : Bool := gtF (xs.getD i 0) (xs.getD ((i + xs.length - 1) % xs.length) 0) && gtF (xs.getD i 0) (xs.getD ((i + 1) % xs.length) 0)
def tops (xs : List Nat) (k : Nat) : List Nat := (List.range k).filter (topB xs)
theorem tops_next (xs : List Nat) (k : Nat) : tops xs (k + 1) = tops xs k ++ (if topB xs k then [k] else []) := by
  unfold tops
  rw [List.range_succ, List.filter_append]
  congr 1
  by_cases h : topB xs k <;> simp [h]
theorem tops_le (xs : List Nat) (k : Nat) : (tops xs k).length ≤ k := by
  unfold tops
  exact Nat.le_trans (List.length_filter_le ..) (by simp)
def inV (n : Nat) : Value := .int .i64 (n : Int)
theorem new_cell (w : World) (v : Value) (E : Nat) : ∀ j u, [v][j]? = some u → (w.alloc (.cells #[v] E)).cell? ((⟨w.heap.size, 0, none⟩ : Addr).add j) = some u := by
  intro j u hu
  have : j = 0 ∧ u = v := by
    cases j with
    | zero => simp at hu; exact ⟨rfl, hu.symm⟩
    | succ j => simp at hu
  obtain ⟨rfl, rfl⟩ := this
  go_simp
theorem Ext.trans_grown {a b c : World} {row : Option Nat} (h : Ext a b) (k : b.grownBy c row) (hr : ∀ i, row = some i → a.heap.size ≤ i) : Ext a c :=
  ⟨k.os.trans h.os, k.tape.trans h.tape, k.output.trans h.output, Nat.le_trans h.size k.size, fun i hi => (k.block i (Nat.lt_of_lt_of_le hi h.size) (fun e => by have := hr i e.symm; omega)).trans (h.block i hi)⟩
set_option maxHeartbeats 1600000 in
set_option maxRecDepth 100000 in
theorem peaks_c (a : Option Addr) (c n : Nat) (xs : List Nat) (w : World) (hlen : xs.length = n) (hl : n ≤ 1048576) (hn : xs.any nanB = false) (h : Row w a (xs.map flV)) :
    Calls Try.prog 6 #[.slice a n c] w fun e w' => ∃ v, e = .returned (.tuple #[v, .int .i64 0]) ∧ w'.ownsRow w.heap.size 3 1 v (tops xs n).length ((tops xs n).map inV) ∧ Ext w w' := by
  have hcn := containsNaN_c a c xs w (by omega) h
  rw [hn, hlen] at hcn
  replace hcn := mkHid hcn
  obtain ⟨b, off, ha, hc⟩ := h
  replace ha := mkHid ha
  replace hc := mkHid hc
  replace hn := mkHid hn
  replace hlen := mkHid hlen
  go_enter Try.func6, Try.ntmps6
  go_wp2_with (go_at_call 11; refine hcn.out.mono ?_; rintro e w' ⟨rfl, rfl⟩)
  go_loopw [12, 4] (fun i v wr => ∃ k : Nat, k ≤ n ∧ i = .int .i64 k ∧ wr.ownsRow w.heap.size 3 1 v (tops xs k).length ((tops xs k).map inV) ∧ Ext w wr) (fun i _ _ => n - (intOf i).toNat)
  case atStart => exact ⟨0, Nat.zero_le _, rfl, World.ownsRow_nil _ _ _ _, Ext.refl _⟩
  case round =>
    obtain ⟨k, hk, rfl, ho, hE⟩ := hrel
    by_cases hlt : k < n
    · have hl0 := hlen.out
      obtain ⟨j1, hj1⟩ : ∃ j1, j1 = (k + n - 1) % n := ⟨_, rfl⟩
      obtain ⟨j2, hj2⟩ : ∃ j2, j2 = (k + 1) % n := ⟨_, rfl⟩
      have l1 : j1 < n := by rw [hj1]; exact Nat.mod_lt _ (by omega)
      have l2 : j2 < n := by rw [hj2]; exact Nat.mod_lt _ (by omega)
      have h0 := hE.cell ((hc.out k (by simp; omega)).trans (by rw [flV_get (by omega)]))
      have h1 := hE.cell ((hc.out j1 (by simp; omega)).trans (by rw [flV_get (by omega)]))
      have h2 := hE.cell ((hc.out j2 (by simp; omega)).trans (by rw [flV_get (by omega)]))
      have hA := ha.out (flV_ne (k := k) (by omega))
      clear hl0
      have w1 : IntKind.i64.wrap ((k : Int) + n) = (k : Int) + n := by rw [IntKind.wrap_i64]; omega
      have w2 : IntKind.i64.wrap ((k : Int) + n - 1) = (k : Int) + n - 1 := by rw [IntKind.wrap_i64]; omega
      have w3 : IntKind.i64.wrap ((k : Int) + 1) = (k : Int) + 1 := by rw [IntKind.wrap_i64]; omega
      have t1 : Int.tmod ((k : Int) + n - 1) n = j1 := by rw [Int.tmod_eq_emod_of_nonneg (by omega), hj1, show (k : Int) + n - 1 = ((k + n - 1 : Nat) : Int) by omega]; exact (Int.natCast_emod _ _).symm
      have t2 : Int.tmod ((k : Int) + 1) n = j2 := by rw [Int.tmod_eq_emod_of_nonneg (by omega), hj2, show (k : Int) + 1 = ((k + 1 : Nat) : Int) by omega]; exact (Int.natCast_emod _ _).symm
      have w4 : IntKind.i64.wrap (j1 : Int) = j1 := by rw [IntKind.wrap_i64]; omega
      have w5 : IntKind.i64.wrap (j2 : Int) = j2 := by rw [IntKind.wrap_i64]; omega
      have n0 : n ≠ 0 := by omega
      rw [hA]
      replace hj1 := mkHid hj1
      replace hj2 := mkHid hj2
      replace hA := mkHid hA
      replace ho := mkHid ho
      replace hE := mkHid hE
      obtain ⟨x0, hx0⟩ : ∃ x, x = xs.getD k 0 := ⟨_, rfl⟩
      obtain ⟨x1, hx1⟩ : ∃ x, x = xs.getD j1 0 := ⟨_, rfl⟩
      obtain ⟨x2, hx2⟩ : ∃ x, x = xs.getD j2 0 := ⟨_, rfl⟩
      rw [← hx0] at h0
      rw [← hx1] at h1
      rw [← hx2] at h2
      replace hx0 := mkHid hx0
      replace hx1 := mkHid hx1
      replace hx2 := mkHid hx2
      have htop : topB xs k = (gtF x0 x1 && gtF x0 x2) := by
        unfold topB
        rw [hlen.out, ← hj1.out, ← hj2.out, ← hx0.out, ← hx1.out, ← hx2.out]
      have hnx := tops_next xs k
      rw [htop] at hnx
      have htl := tops_le xs k
      replace hnx := mkHid hnx
      clear htop
      cases hg1 : gtF x0 x1 with
      | false =>
        rw [hg1] at hnx
        unfold gtF at hg1
        go_wp2_with fail
        go_quiet (fail)
        go_wp2_with fail
        go_roundw
        case rel => exact ⟨k + 1, by omega, by go_num, by rw [show tops xs (k + 1) = tops xs k by rw [hnx.out]; simp]; exact ho.out, hE.out.drN _⟩
        case measure => simp [intOf] <;> omega
      | true =>
        cases hg2 : gtF x0 x2 with
        | false =>
          rw [hg1, hg2] at hnx
          unfold gtF at hg1 hg2
          go_wp2_with fail
          go_quiet (fail)
          go_wp2_with fail
          go_roundw
          case rel => exact ⟨k + 1, by omega, by go_num, by rw [show tops xs (k + 1) = tops xs k by rw [hnx.out]; simp]; exact ho.out, hE.out.drN _⟩
          case measure => simp [intOf] <;> omega
        | true =>
          rw [hg1, hg2] at hnx
          unfold gtF at hg1 hg2
          go_wp2_with fail
          go_quiet (fail)
          obtain ⟨i0, hi, hz0, hz1, hz2⟩ := info_parts infoInt
          have hal : ((wr.drewN nq).alloc (.cells #[.int .i64 k] 3)).ownsRow w.heap.size 3 1 u4 (tops xs k).length ((tops xs k).map inV) := World.ownsRow.alloc (w := wr.drewN nq) ho.out _
          obtain ⟨v', w', happ, hown, hgr⟩ := append_one (P := Try.prog) ((wr.drewN nq).alloc (.cells #[.int .i64 k] 3)) w.heap.size 26 26 3 i0 _ 1 8 underInts hi hz0 hz1 hz2 rfl (by omega) u4 _ _ hal ⟨(wr.drewN nq).heap.size, 0, none⟩ 1 1 [.int .i64 k] rfl
            (new_cell (wr.drewN nq) (.int .i64 k) _)
            (by intro u hu; simp at hu; subst hu; rfl) (by unfold maxLen; omega) (by omega) (by have := hE.out.size; simp; omega) (by omega)
          have hE2 : Ext w w' := by
            have e1 : Ext w ((wr.drewN nq).alloc (.cells #[.int .i64 k] 3)) := (hE.out.drN nq).al _
            rcases hgr with ⟨g, cap, rfl, _, h⟩ | ⟨_, h⟩
            · have := (ho.out.lt g rfl).1
              exact e1.trans_grown h (fun k' hk' => by cases hk'; exact this)
            · exact e1.trans_grown h (fun k' hk' => by cases hk')
          have hown2 : w'.ownsRow w.heap.size 3 1 v' (tops xs (k + 1)).length ((tops xs (k + 1)).map inV) := by
            rw [hnx.out]
            simpa [inV] using hown
          replace happ := mkHid happ
          replace hE2 := mkHid hE2
          replace hown2 := mkHid hown2
          clear hown hgr hal
          go_wp2_with (at_builtin; refine wpList_append_ran rfl (.tmp 43) (.tmp 45) 26 rfl rfl rfl happ.out ?_)
          go_roundw
          case rel => exact ⟨k + 1, by omega, by go_num, hown2.out, hE2.out⟩
          case measure => simp [intOf] <;> omega
    · obtain rfl : k = n := by omega
      replace ho := mkHid ho
      replace hE := mkHid hE
      go_wp2_with fail
      go_ret2
      exact ⟨_, rfl, ho.out, hE.out⟩
theorem peaks_nan (a : Option Addr) (c : Nat) (xs : List Nat) (w : World) (hl : xs.length ≤ 1048576) (hn : xs.any nanB = true) (h : Row w a (xs.map flV)) :
    Calls Try.prog 6 #[.slice a xs.length c] w fun e w' => e = .returned (.tuple #[.slice none 0 0, .int .i64 1]) ∧ w = w' := by
  have hcn := containsNaN_c a c xs w (by omega) h
  rw [hn] at hcn
  replace hcn := mkHid hcn
  replace hn := mkHid hn
  go_enter Try.func6, Try.ntmps6
  go_wp2_with (go_at_call 11; refine hcn.out.mono ?_; rintro e w' ⟨rfl, rfl⟩)
  go_ret2
  exact ⟨rfl, rfl⟩
set_option maxHeartbeats 400000 in
theorem sameNumbers_c (a a' : Option Addr) (c c' : Nat) (l : List Nat) (w : World) (hl : l.length ≤ 1048576) (h : Row w a (l.map inV)) (h' : Row w a' (l.map inV)) :
    Calls Try.prog 10 #[.slice a l.length c, .slice a' l.length c'] w fun e w' => e = .returned (.bool true) ∧ Ext w w' := by
  obtain ⟨b, off, ha, hc⟩ := h
  obtain ⟨b', off', ha', hc'⟩ := h'
  go_enter Try.func10, Try.ntmps10
  go_wp2
  go_loopw [5] (fun i wr => ∃ k : Nat, k ≤ l.length ∧ i = .int .i64 k ∧ ∃ n, wr = w.drewN n) (fun i _ => l.length - (intOf i).toNat)
  case atStart => exact ⟨0, Nat.zero_le _, rfl, 0, rfl⟩
  case round =>
    obtain ⟨k, hk, rfl, hd⟩ := hrel
    by_cases hlt : k < l.length
    · have hne : l.map inV ≠ [] := by
        intro h0
        have := congrArg List.length h0
        simp at this
        subst this
        simp at hlt
      have h1 := hc k (by simpa using hlt)
      have h2 := hc' k (by simpa using hlt)
      have hcx : (l.map inV).getD k undef = .int .i64 (l.getD k 0 : Nat) := by simp [hlt, inV]
      rw [hcx] at h1 h2
      replace h1 : wr.cell? _ = _ := (cell_drew hd _).trans h1
      replace h2 : wr.cell? _ = _ := (cell_drew hd _).trans h2
      replace hd := mkHid hd
      rw [ha hne, ha' hne]
      clear hc hc' ha ha' hcx hne
      generalize l.getD k 0 = x at *
      go_wp2
      go_quiet (fail)
      go_wp2
      go_roundw
      case rel => exact ⟨k + 1, by omega, by go_num, drew_more hd.out _⟩
      case measure => simp [intOf] <;> omega
    · go_wp2
      go_ret
      obtain ⟨n, rfl⟩ := hd
      exact ⟨rfl, (Ext.refl w).drN n⟩
end Go.Proofs.Ytbpjggljbkppaaa
