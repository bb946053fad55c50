/-
  '==' and '!=' on structs, by program.
-/
import Derived.Test.YtilakloilkkfmaaTy
import Derived.Laws.StructEq
namespace Go.Proofs.Ytilakloilkkfmaa
open Go Go.Sx
section
variable {n : Nat} {ds : List Deferred} {ρ : Rho} {cells : List Cel} {bs : List Base} {dst : Option Nat} {ty : TypeId} {pos : String} {aft : Array Edge} {gd : Option (Nat × Bool)} {t' : TypeId} {x y : Operand}
theorem hold45 : Try.prog.stoodInHeld 45 = false := by kernel_rfl
theorem flds45 : Try.prog.fieldsOf 45 = #[⟨"Source", 3, 0, false, "", "", 0⟩, ⟨"Key", 3, 1, false, "", "", 8⟩, ⟨"Value", 2, 2, false, "", "", 16⟩] := by kernel_rfl
theorem run_eq45 (d : Nat) (a0 a1 a2 a0' a1' a2' : Int) (w : World) : (Op.equalIn (d + 2) 45 (.agg #[.int .i64 a0, .int .i64 a1, .int .i64 a2]) (.agg #[.int .i64 a0', .int .i64 a1', .int .i64 a2'])).run Try.prog w = .ok ((a0 == a0') && (a1 == a1') && (a2 == a2')) w := by
  rw [run_equalIn_struct w _ _ _ _ (by rw [flds45]; exact Try.underlying45) hold45, flds45]
  simp [Op.eqFields, part, Try.isAgg2, Try.isAgg3, run_equalIn_int _ _ _ _ _ _ _ Try.underlying2, run_equalIn_int _ _ _ _ _ _ _ Try.underlying3]
  by_cases ha0 : a0 = a0' <;> by_cases ha1 : a1 = a1' <;> by_cases ha2 : a2 = a2' <;> simp [ha0, ha1, ha2]
theorem y_eql_t45 {a0 a1 a2 a0' a1' a2' : Int} (hx : ev ρ x = some (.agg #[.int .i64 a0, .int .i64 a1, .int .i64 a2])) (hy : ev ρ y = some (.agg #[.int .i64 a0', .int .i64 a1', .int .i64 a2'])) : Y Try.prog ⟨dst, .binOp .eql 45 x y t', ty, pos, aft, gd⟩ n ds ρ cells bs (.bool (((a0 == a0') && (a1 == a1') && (a2 == a2')))) := by
  refine y_bin hx hy (fun w => by simp [eqGuard]) fun w => ?_
  have h : (Op.equal 45 (.agg #[.int .i64 a0, .int .i64 a1, .int .i64 a2]) (.agg #[.int .i64 a0', .int .i64 a1', .int .i64 a2'])).run Try.prog w = _ := run_eq45 9998 _ _ _ _ _ _ w
  show ((do pure (Value.bool ((← Op.equal 45 (.agg #[.int .i64 a0, .int .i64 a1, .int .i64 a2]) (.agg #[.int .i64 a0', .int .i64 a1', .int .i64 a2']))))) : Sem Value).run Try.prog w = _
  simp only [Sem.run_bind, h, Result.andThen_ok, Sem.run_pure]
theorem y_neq_t45 {a0 a1 a2 a0' a1' a2' : Int} (hx : ev ρ x = some (.agg #[.int .i64 a0, .int .i64 a1, .int .i64 a2])) (hy : ev ρ y = some (.agg #[.int .i64 a0', .int .i64 a1', .int .i64 a2'])) : Y Try.prog ⟨dst, .binOp .neq 45 x y t', ty, pos, aft, gd⟩ n ds ρ cells bs (.bool (!((a0 == a0') && (a1 == a1') && (a2 == a2')))) := by
  refine y_bin hx hy (fun w => by simp [eqGuard]) fun w => ?_
  have h : (Op.equal 45 (.agg #[.int .i64 a0, .int .i64 a1, .int .i64 a2]) (.agg #[.int .i64 a0', .int .i64 a1', .int .i64 a2'])).run Try.prog w = _ := run_eq45 9998 _ _ _ _ _ _ w
  show ((do pure (Value.bool (!(← Op.equal 45 (.agg #[.int .i64 a0, .int .i64 a1, .int .i64 a2]) (.agg #[.int .i64 a0', .int .i64 a1', .int .i64 a2']))))) : Sem Value).run Try.prog w = _
  simp only [Sem.run_bind, h, Result.andThen_ok, Sem.run_pure]
theorem hold47 : Try.prog.stoodInHeld 47 = false := by kernel_rfl
theorem flds47 : Try.prog.fieldsOf 47 = #[⟨"Kind", 3, 0, false, "", "", 0⟩, ⟨"Record", 45, 1, false, "", "", 8⟩, ⟨"Number", 28, 4, false, "", "", 32⟩] := by kernel_rfl
theorem run_eq47 (d : Nat) (a0 a10 a11 a12 a2 a0' a10' a11' a12' a2' : Int) (w : World) : (Op.equalIn (d + 3) 47 (.agg #[.int .i64 a0, .int .i64 a10, .int .i64 a11, .int .i64 a12, .int .u64 a2]) (.agg #[.int .i64 a0', .int .i64 a10', .int .i64 a11', .int .i64 a12', .int .u64 a2'])).run Try.prog w = .ok ((a0 == a0') && ((a10 == a10') && (a11 == a11') && (a12 == a12')) && (a2 == a2')) w := by
  rw [run_equalIn_struct w _ _ _ _ (by rw [flds47]; exact Try.underlying47) hold47, flds47]
  simp [Op.eqFields, part, Try.isAgg3, Try.isAgg28, Try.isAgg45, Try.sizeOf45, run_equalIn_int _ _ _ _ _ _ _ Try.underlying3, run_equalIn_int _ _ _ _ _ _ _ Try.underlying28, run_eq45]
  by_cases ha0 : a0 = a0' <;> by_cases ha10 : a10 = a10' <;> by_cases ha11 : a11 = a11' <;> by_cases ha12 : a12 = a12' <;> by_cases ha2 : a2 = a2' <;> simp [ha0, ha10, ha11, ha12, ha2]
theorem y_eql_t47 {a0 a10 a11 a12 a2 a0' a10' a11' a12' a2' : Int} (hx : ev ρ x = some (.agg #[.int .i64 a0, .int .i64 a10, .int .i64 a11, .int .i64 a12, .int .u64 a2])) (hy : ev ρ y = some (.agg #[.int .i64 a0', .int .i64 a10', .int .i64 a11', .int .i64 a12', .int .u64 a2'])) : Y Try.prog ⟨dst, .binOp .eql 47 x y t', ty, pos, aft, gd⟩ n ds ρ cells bs (.bool (((a0 == a0') && ((a10 == a10') && (a11 == a11') && (a12 == a12')) && (a2 == a2')))) := by
  refine y_bin hx hy (fun w => by simp [eqGuard]) fun w => ?_
  have h : (Op.equal 47 (.agg #[.int .i64 a0, .int .i64 a10, .int .i64 a11, .int .i64 a12, .int .u64 a2]) (.agg #[.int .i64 a0', .int .i64 a10', .int .i64 a11', .int .i64 a12', .int .u64 a2'])).run Try.prog w = _ := run_eq47 9997 _ _ _ _ _ _ _ _ _ _ w
  show ((do pure (Value.bool ((← Op.equal 47 (.agg #[.int .i64 a0, .int .i64 a10, .int .i64 a11, .int .i64 a12, .int .u64 a2]) (.agg #[.int .i64 a0', .int .i64 a10', .int .i64 a11', .int .i64 a12', .int .u64 a2']))))) : Sem Value).run Try.prog w = _
  simp only [Sem.run_bind, h, Result.andThen_ok, Sem.run_pure]
theorem y_neq_t47 {a0 a10 a11 a12 a2 a0' a10' a11' a12' a2' : Int} (hx : ev ρ x = some (.agg #[.int .i64 a0, .int .i64 a10, .int .i64 a11, .int .i64 a12, .int .u64 a2])) (hy : ev ρ y = some (.agg #[.int .i64 a0', .int .i64 a10', .int .i64 a11', .int .i64 a12', .int .u64 a2'])) : Y Try.prog ⟨dst, .binOp .neq 47 x y t', ty, pos, aft, gd⟩ n ds ρ cells bs (.bool (!((a0 == a0') && ((a10 == a10') && (a11 == a11') && (a12 == a12')) && (a2 == a2')))) := by
  refine y_bin hx hy (fun w => by simp [eqGuard]) fun w => ?_
  have h : (Op.equal 47 (.agg #[.int .i64 a0, .int .i64 a10, .int .i64 a11, .int .i64 a12, .int .u64 a2]) (.agg #[.int .i64 a0', .int .i64 a10', .int .i64 a11', .int .i64 a12', .int .u64 a2'])).run Try.prog w = _ := run_eq47 9997 _ _ _ _ _ _ _ _ _ _ w
  show ((do pure (Value.bool (!(← Op.equal 47 (.agg #[.int .i64 a0, .int .i64 a10, .int .i64 a11, .int .i64 a12, .int .u64 a2]) (.agg #[.int .i64 a0', .int .i64 a10', .int .i64 a11', .int .i64 a12', .int .u64 a2']))))) : Sem Value).run Try.prog w = _
  simp only [Sem.run_bind, h, Result.andThen_ok, Sem.run_pure]
theorem hold86 : Try.prog.stoodInHeld 86 = false := by kernel_rfl
theorem flds86 : Try.prog.fieldsOf 86 = #[⟨"Epoch", 28, 0, false, "", "", 0⟩, ⟨"Holder", 3, 1, false, "", "", 8⟩, ⟨"Until", 2, 2, false, "", "", 16⟩] := by kernel_rfl
theorem run_eq86 (d : Nat) (a0 a1 a2 a0' a1' a2' : Int) (w : World) : (Op.equalIn (d + 2) 86 (.agg #[.int .u64 a0, .int .i64 a1, .int .i64 a2]) (.agg #[.int .u64 a0', .int .i64 a1', .int .i64 a2'])).run Try.prog w = .ok ((a0 == a0') && (a1 == a1') && (a2 == a2')) w := by
  rw [run_equalIn_struct w _ _ _ _ (by rw [flds86]; exact Try.underlying86) hold86, flds86]
  simp [Op.eqFields, part, Try.isAgg2, Try.isAgg3, Try.isAgg28, run_equalIn_int _ _ _ _ _ _ _ Try.underlying2, run_equalIn_int _ _ _ _ _ _ _ Try.underlying3, run_equalIn_int _ _ _ _ _ _ _ Try.underlying28]
  by_cases ha0 : a0 = a0' <;> by_cases ha1 : a1 = a1' <;> by_cases ha2 : a2 = a2' <;> simp [ha0, ha1, ha2]
theorem y_eql_t86 {a0 a1 a2 a0' a1' a2' : Int} (hx : ev ρ x = some (.agg #[.int .u64 a0, .int .i64 a1, .int .i64 a2])) (hy : ev ρ y = some (.agg #[.int .u64 a0', .int .i64 a1', .int .i64 a2'])) : Y Try.prog ⟨dst, .binOp .eql 86 x y t', ty, pos, aft, gd⟩ n ds ρ cells bs (.bool (((a0 == a0') && (a1 == a1') && (a2 == a2')))) := by
  refine y_bin hx hy (fun w => by simp [eqGuard]) fun w => ?_
  have h : (Op.equal 86 (.agg #[.int .u64 a0, .int .i64 a1, .int .i64 a2]) (.agg #[.int .u64 a0', .int .i64 a1', .int .i64 a2'])).run Try.prog w = _ := run_eq86 9998 _ _ _ _ _ _ w
  show ((do pure (Value.bool ((← Op.equal 86 (.agg #[.int .u64 a0, .int .i64 a1, .int .i64 a2]) (.agg #[.int .u64 a0', .int .i64 a1', .int .i64 a2']))))) : Sem Value).run Try.prog w = _
  simp only [Sem.run_bind, h, Result.andThen_ok, Sem.run_pure]
theorem y_neq_t86 {a0 a1 a2 a0' a1' a2' : Int} (hx : ev ρ x = some (.agg #[.int .u64 a0, .int .i64 a1, .int .i64 a2])) (hy : ev ρ y = some (.agg #[.int .u64 a0', .int .i64 a1', .int .i64 a2'])) : Y Try.prog ⟨dst, .binOp .neq 86 x y t', ty, pos, aft, gd⟩ n ds ρ cells bs (.bool (!((a0 == a0') && (a1 == a1') && (a2 == a2')))) := by
  refine y_bin hx hy (fun w => by simp [eqGuard]) fun w => ?_
  have h : (Op.equal 86 (.agg #[.int .u64 a0, .int .i64 a1, .int .i64 a2]) (.agg #[.int .u64 a0', .int .i64 a1', .int .i64 a2'])).run Try.prog w = _ := run_eq86 9998 _ _ _ _ _ _ w
  show ((do pure (Value.bool (!(← Op.equal 86 (.agg #[.int .u64 a0, .int .i64 a1, .int .i64 a2]) (.agg #[.int .u64 a0', .int .i64 a1', .int .i64 a2']))))) : Sem Value).run Try.prog w = _
  simp only [Sem.run_bind, h, Result.andThen_ok, Sem.run_pure]
theorem hold136 : Try.prog.stoodInHeld 136 = false := by kernel_rfl
theorem flds136 : Try.prog.fieldsOf 136 = #[⟨"Sink", 3, 0, false, "", "", 0⟩, ⟨"Attempt", 3, 1, false, "", "", 8⟩, ⟨"Serial", 3, 2, false, "", "", 16⟩] := by kernel_rfl
theorem run_eq136 (d : Nat) (a0 a1 a2 a0' a1' a2' : Int) (w : World) : (Op.equalIn (d + 2) 136 (.agg #[.int .i64 a0, .int .i64 a1, .int .i64 a2]) (.agg #[.int .i64 a0', .int .i64 a1', .int .i64 a2'])).run Try.prog w = .ok ((a0 == a0') && (a1 == a1') && (a2 == a2')) w := by
  rw [run_equalIn_struct w _ _ _ _ (by rw [flds136]; exact Try.underlying136) hold136, flds136]
  simp [Op.eqFields, part, Try.isAgg3, run_equalIn_int _ _ _ _ _ _ _ Try.underlying3]
  by_cases ha0 : a0 = a0' <;> by_cases ha1 : a1 = a1' <;> by_cases ha2 : a2 = a2' <;> simp [ha0, ha1, ha2]
theorem y_eql_t136 {a0 a1 a2 a0' a1' a2' : Int} (hx : ev ρ x = some (.agg #[.int .i64 a0, .int .i64 a1, .int .i64 a2])) (hy : ev ρ y = some (.agg #[.int .i64 a0', .int .i64 a1', .int .i64 a2'])) : Y Try.prog ⟨dst, .binOp .eql 136 x y t', ty, pos, aft, gd⟩ n ds ρ cells bs (.bool (((a0 == a0') && (a1 == a1') && (a2 == a2')))) := by
  refine y_bin hx hy (fun w => by simp [eqGuard]) fun w => ?_
  have h : (Op.equal 136 (.agg #[.int .i64 a0, .int .i64 a1, .int .i64 a2]) (.agg #[.int .i64 a0', .int .i64 a1', .int .i64 a2'])).run Try.prog w = _ := run_eq136 9998 _ _ _ _ _ _ w
  show ((do pure (Value.bool ((← Op.equal 136 (.agg #[.int .i64 a0, .int .i64 a1, .int .i64 a2]) (.agg #[.int .i64 a0', .int .i64 a1', .int .i64 a2']))))) : Sem Value).run Try.prog w = _
  simp only [Sem.run_bind, h, Result.andThen_ok, Sem.run_pure]
theorem y_neq_t136 {a0 a1 a2 a0' a1' a2' : Int} (hx : ev ρ x = some (.agg #[.int .i64 a0, .int .i64 a1, .int .i64 a2])) (hy : ev ρ y = some (.agg #[.int .i64 a0', .int .i64 a1', .int .i64 a2'])) : Y Try.prog ⟨dst, .binOp .neq 136 x y t', ty, pos, aft, gd⟩ n ds ρ cells bs (.bool (!((a0 == a0') && (a1 == a1') && (a2 == a2')))) := by
  refine y_bin hx hy (fun w => by simp [eqGuard]) fun w => ?_
  have h : (Op.equal 136 (.agg #[.int .i64 a0, .int .i64 a1, .int .i64 a2]) (.agg #[.int .i64 a0', .int .i64 a1', .int .i64 a2'])).run Try.prog w = _ := run_eq136 9998 _ _ _ _ _ _ w
  show ((do pure (Value.bool (!(← Op.equal 136 (.agg #[.int .i64 a0, .int .i64 a1, .int .i64 a2]) (.agg #[.int .i64 a0', .int .i64 a1', .int .i64 a2']))))) : Sem Value).run Try.prog w = _
  simp only [Sem.run_bind, h, Result.andThen_ok, Sem.run_pure]
end
end Go.Proofs.Ytilakloilkkfmaa
