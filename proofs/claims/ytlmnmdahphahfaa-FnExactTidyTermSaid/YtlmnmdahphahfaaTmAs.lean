/-
  THE TYPE SWITCH over a tree's value.
-/
import Derived.Test.YtlmnmdahphahfaaTmTo
namespace Go.Proofs.Ytlmnmdahphahfaa
open Go.RowKit

theorem as_seq_seq (v : Value) (W : World) : (Instr.typeAssert (.iface tSeqT v) tTree tSeqT true).run Try.prog W = .ok (.tuple #[v, .bool true]) W := by kernel_rfl
theorem as_par_par (v : Value) (W : World) : (Instr.typeAssert (.iface tParT v) tTree tParT true).run Try.prog W = .ok (.tuple #[v, .bool true]) W := by kernel_rfl
theorem as_leaf_leaf (v : Value) (W : World) : (Instr.typeAssert (.iface tLeafT v) tTree tLeafT true).run Try.prog W = .ok (.tuple #[v, .bool true]) W := by kernel_rfl
theorem as_par_seq (v : Value) (W : World) : (Instr.typeAssert (.iface tParT v) tTree tSeqT true).run Try.prog W = .ok (.tuple #[.agg #[.nilIface, .nilIface], .bool false]) W := by kernel_rfl
theorem as_leaf_seq (v : Value) (W : World) : (Instr.typeAssert (.iface tLeafT v) tTree tSeqT true).run Try.prog W = .ok (.tuple #[.agg #[.nilIface, .nilIface], .bool false]) W := by kernel_rfl
theorem as_seq_par (v : Value) (W : World) : (Instr.typeAssert (.iface tSeqT v) tTree tParT true).run Try.prog W = .ok (.tuple #[.agg #[.nilIface, .nilIface], .bool false]) W := by kernel_rfl
theorem as_leaf_par (v : Value) (W : World) : (Instr.typeAssert (.iface tLeafT v) tTree tParT true).run Try.prog W = .ok (.tuple #[.agg #[.nilIface, .nilIface], .bool false]) W := by kernel_rfl
theorem as_seq_leaf (v : Value) (W : World) : (Instr.typeAssert (.iface tSeqT v) tTree tLeafT true).run Try.prog W = .ok (.tuple #[.agg #[.int .i64 0, .int .i64 0, .string noName], .bool false]) W := by kernel_rfl
theorem as_par_leaf (v : Value) (W : World) : (Instr.typeAssert (.iface tParT v) tTree tLeafT true).run Try.prog W = .ok (.tuple #[.agg #[.int .i64 0, .int .i64 0, .string noName], .bool false]) W := by kernel_rfl
end Go.Proofs.Ytlmnmdahphahfaa
