/-
  Facts on types, by program.
-/
import Derived.Test.YtilakloilkkfmaaSxMore
import Derived.Test.YtilakloilkkfmaaProg
import Derived.KernelRfl
namespace Go.Proofs.Ytilakloilkkfmaa
open Go Go.Sx
theorem mixed : Try.prog.follows .mixedOrders = true := by kernel_rfl
theorem pl30 : Pl Try.prog 30 [(0, 1), (1, 1), (2, 1), (3, 1), (4, 1)] := fun fs h => by
  rw [Try.underlying30] at h
  cases h
  intro w
  kernel_rfl
theorem pl32 : Pl Try.prog 32 [(0, 1), (1, 1), (2, 1), (3, 1)] := fun fs h => by
  rw [Try.underlying32] at h
  cases h
  intro w
  kernel_rfl
theorem pl35 : Pl Try.prog 35 [(0, 1), (1, 1)] := fun fs h => by
  rw [Try.underlying35] at h
  cases h
  intro w
  kernel_rfl
theorem pl38 : Pl Try.prog 38 [(0, 5), (5, 4), (9, 2), (11, 1), (12, 1), (13, 1)] := fun fs h => by
  rw [Try.underlying38] at h
  cases h
  intro w
  kernel_rfl
theorem pl45 : Pl Try.prog 45 [(0, 1), (1, 1), (2, 1)] := fun fs h => by
  rw [Try.underlying45] at h
  cases h
  intro w
  kernel_rfl
theorem pl47 : Pl Try.prog 47 [(0, 1), (1, 3), (4, 1)] := fun fs h => by
  rw [Try.underlying47] at h
  cases h
  intro w
  kernel_rfl
theorem pl49 : Pl Try.prog 49 [(0, 1), (1, 1)] := fun fs h => by
  rw [Try.underlying49] at h
  cases h
  intro w
  kernel_rfl
theorem pl58 : Pl Try.prog 58 [(0, 1), (1, 1), (2, 1)] := fun fs h => by
  rw [Try.underlying58] at h
  cases h
  intro w
  kernel_rfl
theorem pl61 : Pl Try.prog 61 [(0, 1), (1, 1), (2, 1), (3, 1), (4, 1)] := fun fs h => by
  rw [Try.underlying61] at h
  cases h
  intro w
  kernel_rfl
theorem pl86 : Pl Try.prog 86 [(0, 1), (1, 1), (2, 1)] := fun fs h => by
  rw [Try.underlying86] at h
  cases h
  intro w
  kernel_rfl
theorem pl89 : Pl Try.prog 89 [(0, 1), (1, 1), (2, 1), (3, 1), (4, 1), (5, 1)] := fun fs h => by
  rw [Try.underlying89] at h
  cases h
  intro w
  kernel_rfl
theorem pl92 : Pl Try.prog 92 [(0, 1), (1, 1), (2, 1)] := fun fs h => by
  rw [Try.underlying92] at h
  cases h
  intro w
  kernel_rfl
theorem pl94 : Pl Try.prog 94 [(0, 3), (3, 6), (9, 3)] := fun fs h => by
  rw [Try.underlying94] at h
  cases h
  intro w
  kernel_rfl
theorem pl114 : Pl Try.prog 114 [(0, 1), (1, 1), (2, 1), (3, 1), (4, 5)] := fun fs h => by
  rw [Try.underlying114] at h
  cases h
  intro w
  kernel_rfl
theorem pl131 : Pl Try.prog 131 [(0, 1), (1, 1), (2, 1), (3, 1)] := fun fs h => by
  rw [Try.underlying131] at h
  cases h
  intro w
  kernel_rfl
theorem pl136 : Pl Try.prog 136 [(0, 1), (1, 1), (2, 1)] := fun fs h => by
  rw [Try.underlying136] at h
  cases h
  intro w
  kernel_rfl
theorem pl138 : Pl Try.prog 138 [(0, 1), (1, 3), (4, 3)] := fun fs h => by
  rw [Try.underlying138] at h
  cases h
  intro w
  kernel_rfl
theorem pl154 : Pl Try.prog 154 [(0, 3), (3, 1), (4, 1)] := fun fs h => by
  rw [Try.underlying154] at h
  cases h
  intro w
  kernel_rfl
theorem pl176 : Pl Try.prog 176 [(0, 1), (1, 1)] := fun fs h => by
  rw [Try.underlying176] at h
  cases h
  intro w
  kernel_rfl
theorem pl204 : Pl Try.prog 204 [(0, 1), (1, 1), (2, 1), (3, 1)] := fun fs h => by
  rw [Try.underlying204] at h
  cases h
  intro w
  kernel_rfl
theorem pl206 : Pl Try.prog 206 [(0, 1), (1, 1), (2, 1)] := fun fs h => by
  rw [Try.underlying206] at h
  cases h
  intro w
  kernel_rfl
theorem ti2 : TI Try.prog 2 (.int .i64 0) 1 8 := TI.of (by kernel_rfl)
theorem ti3 : TI Try.prog 3 (.int .i64 0) 1 8 := TI.of (by kernel_rfl)
theorem ti5 : TI Try.prog 5 (.int .u8 0) 1 1 := TI.of (by kernel_rfl)
theorem ti28 : TI Try.prog 28 (.int .u64 0) 1 8 := TI.of (by kernel_rfl)
theorem ti45 : TI Try.prog 45 (.agg #[.int .i64 0, .int .i64 0, .int .i64 0]) 3 24 := TI.of (by kernel_rfl)
theorem ti47 : TI Try.prog 47 (.agg #[.int .i64 0, .int .i64 0, .int .i64 0, .int .i64 0, .int .u64 0]) 5 40 := TI.of (by kernel_rfl)
theorem ti114 : TI Try.prog 114 (.agg #[.int .i64 0, .int .u32 0, .int .u64 0, .int .u64 0, .int .i64 0, .int .i64 0, .int .i64 0, .int .i64 0, .int .u64 0]) 9 72 := TI.of (by kernel_rfl)
theorem ti131 : TI Try.prog 131 (.agg #[.int .u64 0, .int .i64 0, .int .i64 0, .slice none 0 0]) 4 48 := TI.of (by kernel_rfl)
theorem ti136 : TI Try.prog 136 (.agg #[.int .i64 0, .int .i64 0, .int .i64 0]) 3 24 := TI.of (by kernel_rfl)
theorem ti138 : TI Try.prog 138 (.agg #[.int .i64 0, .int .i64 0, .int .i64 0, .int .i64 0, .int .i64 0, .int .i64 0, .int .i64 0]) 7 56 := TI.of (by kernel_rfl)
theorem ti154 : TI Try.prog 154 (.agg #[.int .i64 0, .int .i64 0, .int .i64 0, .int .i64 0, .slice none 0 0]) 5 56 := TI.of (by kernel_rfl)
theorem ti176 : TI Try.prog 176 (.agg #[.int .i64 0, .slice none 0 0]) 2 32 := TI.of (by kernel_rfl)
theorem ti204 : TI Try.prog 204 (.agg #[.int .u64 0, .int .i64 0, .bool false, .slice none 0 0]) 4 48 := TI.of (by kernel_rfl)
theorem ti206 : TI Try.prog 206 (.agg #[.int .i64 0, .int .i64 0, .bool false]) 3 24 := TI.of (by kernel_rfl)
end Go.Proofs.Ytilakloilkkfmaa
