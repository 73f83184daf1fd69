/-
  The engine's table for this translation. No condition.
-/
import Derived.Test.YtdmlgmefnikhhaaDoorChecked
import Derived.Test.YtdmlgmefnikhhaaDoorOps3
import Derived.KernelRfl
namespace Go.Proofs.YtdmlgmefnikhhaaDoor
open Go.Proofs.YtdmlgmefnikhhaaDoor.RW
noncomputable def G : Eng := { nf := 24, tt := [(3, ⟨.int .i64, 1, 8, .int .i64 0⟩), (4, ⟨.bool, 1, 1, .bool false⟩), (22, ⟨.slice 3, 1, 24, .slice none 0 0⟩), (9, ⟨.string, 1, 16, .string .empty⟩), (35, ⟨.array 4 3, 4, 32, .agg #[.int .i64 0, .int .i64 0, .int .i64 0, .int .i64 0]⟩), (2, ⟨.int .i64, 1, 8, .int .i64 0⟩), (5, ⟨.int .u8, 1, 1, .int .u8 0⟩), (12, ⟨.int .u64, 1, 8, .int .u64 0⟩), (21, ⟨.int .i32, 1, 4, .int .i32 0⟩), (45, ⟨.int .u32, 1, 4, .int .u32 0⟩), (49, ⟨.pointer 5, 1, 8, .pointer none⟩)] }
set_option maxRecDepth 100000 in
theorem gok : EngOk Tryd.prog G := engOk (by
  exact ⟨⟨by kernel_rfl, by kernel_rfl⟩, ⟨by kernel_rfl, by kernel_rfl⟩, ⟨by kernel_rfl, by kernel_rfl⟩, ⟨by kernel_rfl, by kernel_rfl⟩, ⟨by kernel_rfl, by kernel_rfl⟩, ⟨by kernel_rfl, by kernel_rfl⟩, ⟨by kernel_rfl, by kernel_rfl⟩, ⟨by kernel_rfl, by kernel_rfl⟩, ⟨by kernel_rfl, by kernel_rfl⟩, ⟨by kernel_rfl, by kernel_rfl⟩, ⟨by kernel_rfl, by kernel_rfl⟩, trivial⟩) (by kernel_rfl)
end Go.Proofs.YtdmlgmefnikhhaaDoor
