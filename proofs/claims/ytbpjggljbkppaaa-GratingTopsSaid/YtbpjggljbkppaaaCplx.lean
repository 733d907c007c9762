/-
  cplx: Add, Sub, Mul, Turn; math.Sqrt. Floats: what an operation gives where it is valid.
-/
import Derived.Test.YtbpjggljbkppaaaProg
import Derived.Test.YtbpjggljbkppaaaMem
namespace Go.Proofs.Ytbpjggljbkppaaa
open Go Go.RowKit Go.Proofs
/-- What an operation on floats gives, and whether it is valid. -/
def fo (op : BinOp) (x y : Nat) : Nat := (floatBits op .f64 x y).getD 0
def fv (op : BinOp) (x y : Nat) : Bool := (floatBits op .f64 x y).isSome
theorem run_fo {P : Program} {op : BinOp} {x y : Nat} (h : fv op x y = true) (t : TypeId) (w : World) : (binOp op t (.float .f64 x) (.float .f64 y)).run P w = .ok (.float .f64 (fo op x y)) w := by
  refine run_float_arith w op t .f64 x y _ ?_
  unfold fv at h
  unfold fo
  obtain ⟨r, hr⟩ := Option.isSome_iff_exists.1 h
  rw [hr]
  rfl
def ngF (x : Nat) : Nat := Op.negFloat .f64 x
@[go_sem] theorem run_ngF {P : Program} (x : Nat) (w : World) : (Op.unary .neg (.float .f64 x)).run P w = .ok (.float .f64 (ngF x)) w := rfl
def sqF (x : Nat) : Nat := (FloatKind.f64.format.sqrt x).getD 0
def sqV (x : Nat) : Bool := (FloatKind.f64.format.sqrt x).isSome
theorem sqrt_run (x : Nat) (h : sqV x = true) (w : World) : (callFunc 36 #[.float .f64 x]).run Try.prog w = .ok (.value (.float .f64 (sqF x))) w := by
  rw [run_callFunc_extern Try.func36 (by kernel_rfl) (by kernel_rfl) (by kernel_rfl) (e := Extern.MathSqrt.sqrt) (by kernel_rfl)]
  unfold sqV at h
  unfold sqF
  obtain ⟨r, hr⟩ := Option.isSome_iff_exists.1 h
  show (Sem.run Try.prog (match FloatKind.f64.format.sqrt x with | some r => pure (.float .f64 r) | none => do pure (.float .f64 (← choose (.nanBits .f64 x x))) : Sem Value) w).andThen _ = _
  rw [hr]
  rfl
theorem sqrt_c (x : Nat) (h : sqV x = true) (w : World) : Calls Try.prog 33 #[.float .f64 x] w fun e w' => e = .returned (.float .f64 (sqF x)) ∧ w = w' := by
  have hr := fun w => sqrt_run x h w
  replace h := mkHid h
  go_enter Try.func33, Try.ntmps33
  go_wp2_with fail
  go_ret
  exact ⟨rfl, rfl⟩
theorem cross_c (a c b d p q r : Nat) (hp : floatBits .mul .f64 a c = some p) (hq : floatBits .mul .f64 b d = some q) (hr : floatBits .sub .f64 p q = some r) (w : World) :
    Calls Try.prog 30 #[.float .f64 a, .float .f64 c, .float .f64 b, .float .f64 d] w fun e w' => e = .returned (.float .f64 r) ∧ w = w' := by
  have r1 := fun t (w : World) => run_float_arith (P := Try.prog) w .mul t .f64 a c p hp
  have r2 := fun t (w : World) => run_float_arith (P := Try.prog) w .mul t .f64 b d q hq
  have r3 := fun t (w : World) => run_float_arith (P := Try.prog) w .sub t .f64 p q r hr
  clear hp hq hr
  go_enter Try.func30, Try.ntmps30
  go_wp2_with fail
  go_ret
  exact ⟨rfl, rfl⟩
theorem dot_c (a c b d p q r : Nat) (hp : floatBits .mul .f64 a c = some p) (hq : floatBits .mul .f64 b d = some q) (hr : floatBits .add .f64 p q = some r) (w : World) :
    Calls Try.prog 31 #[.float .f64 a, .float .f64 c, .float .f64 b, .float .f64 d] w fun e w' => e = .returned (.float .f64 r) ∧ w = w' := by
  have r1 := fun t (w : World) => run_float_arith (P := Try.prog) w .mul t .f64 a c p hp
  have r2 := fun t (w : World) => run_float_arith (P := Try.prog) w .mul t .f64 b d q hq
  have r3 := fun t (w : World) => run_float_arith (P := Try.prog) w .add t .f64 p q r hr
  clear hp hq hr
  go_enter Try.func31, Try.ntmps31
  go_wp2_with fail
  go_ret
  exact ⟨rfl, rfl⟩
/-- Numbers of two floats. -/
abbrev Cx := Nat × Nat
def cxV (z : Cx) : Value := .complex .f64 z.1 z.2
def addO (z u : Cx) : Option Cx := (floatBits .add .f64 z.1 u.1).bind fun x => (floatBits .add .f64 z.2 u.2).bind fun y => some (x, y)
def subO (z u : Cx) : Option Cx := (floatBits .sub .f64 z.1 u.1).bind fun x => (floatBits .sub .f64 z.2 u.2).bind fun y => some (x, y)
def crossO (a c b d : Nat) : Option Nat := (floatBits .mul .f64 a c).bind fun p => (floatBits .mul .f64 b d).bind fun q => floatBits .sub .f64 p q
def dotO (a c b d : Nat) : Option Nat := (floatBits .mul .f64 a c).bind fun p => (floatBits .mul .f64 b d).bind fun q => floatBits .add .f64 p q
def mulO (z u : Cx) : Option Cx := (crossO z.1 u.1 z.2 u.2).bind fun x => (dotO z.1 u.2 z.2 u.1).bind fun y => some (x, y)
theorem cadd_c (z u r : Cx) (h : addO z u = some r) (w : World) : Calls Try.prog 22 #[cxV z, cxV u] w fun e w' => e = .returned (cxV r) ∧ w = w' := by
  obtain ⟨a, b⟩ := z
  obtain ⟨c, d⟩ := u
  simp only [addO, Option.bind_eq_some_iff, Option.some.injEq] at h
  obtain ⟨p, hp, q, hq, rfl⟩ := h
  have r1 := fun t (w : World) => run_float_arith (P := Try.prog) w .add t .f64 a c p hp
  have r2 := fun t (w : World) => run_float_arith (P := Try.prog) w .add t .f64 b d q hq
  clear hp hq
  unfold cxV
  go_enter Try.func22, Try.ntmps22
  go_wp2_with fail
  go_ret
  exact ⟨rfl, rfl⟩
theorem csub_c (z u r : Cx) (h : subO z u = some r) (w : World) : Calls Try.prog 23 #[cxV z, cxV u] w fun e w' => e = .returned (cxV r) ∧ w = w' := by
  obtain ⟨a, b⟩ := z
  obtain ⟨c, d⟩ := u
  simp only [subO, Option.bind_eq_some_iff, Option.some.injEq] at h
  obtain ⟨p, hp, q, hq, rfl⟩ := h
  have r1 := fun t (w : World) => run_float_arith (P := Try.prog) w .sub t .f64 a c p hp
  have r2 := fun t (w : World) => run_float_arith (P := Try.prog) w .sub t .f64 b d q hq
  clear hp hq
  unfold cxV
  go_enter Try.func23, Try.ntmps23
  go_wp2_with fail
  go_ret
  exact ⟨rfl, rfl⟩
theorem cmul_c (z u r : Cx) (h : mulO z u = some r) (w : World) : Calls Try.prog 21 #[cxV z, cxV u] w fun e w' => e = .returned (cxV r) ∧ w = w' := by
  obtain ⟨a, b⟩ := z
  obtain ⟨c, d⟩ := u
  simp only [mulO, crossO, dotO, Option.bind_eq_some_iff, Option.some.injEq] at h
  obtain ⟨x, ⟨p, hp, q, hq, hx⟩, y, ⟨p', hp', q', hq', hy⟩, rfl⟩ := h
  have h1 := fun w => cross_c a c b d p q x hp hq hx w
  have h2 := fun w => dot_c a d b c p' q' y hp' hq' hy w
  clear hp hq hx hp' hq' hy
  replace h1 := mkHid h1
  replace h2 := mkHid h2
  unfold cxV
  go_enter Try.func21, Try.ntmps21
  go_wp2_with (first | (go_at_call 30; refine (h1.out _).mono ?_; rintro e w' ⟨rfl, rfl⟩) | (go_at_call 31; refine (h2.out _).mono ?_; rintro e w' ⟨rfl, rfl⟩))
  go_ret
  exact ⟨rfl, rfl⟩
end Go.Proofs.Ytbpjggljbkppaaa
