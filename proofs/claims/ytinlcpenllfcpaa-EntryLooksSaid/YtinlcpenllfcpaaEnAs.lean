/- Type assertions on the program's values, as rules. No condition. -/
import Derived.Test.YtinlcpenllfcpaaEnCheck2
namespace Go.Proofs.Ytinlcpenllfcpaa
open Go.RowKit

section
variable {P : Program} {w : World}
theorem run_assert_yes (x t : TypeId) (v : Value) (U : TypeDesc) (hu : P.underlying t = some U) (hi : ∀ m, U ≠ .interface m) : (Instr.typeAssert (.iface t v) x t true).run P w = .ok (.tuple #[v, .bool true]) w := by
  unfold Instr.typeAssert
  simp only [Sem.run_bind, run_underlying hu, Result.andThen_ok]
  cases U <;> first | (exact absurd rfl (hi _)) | simp
theorem run_assert_no (x t u : TypeId) (v z : Value) (U : TypeDesc) (hu : P.underlying t = some U) (hi : ∀ m, U ≠ .interface m) (hne : u ≠ t) (hz : (zeroValue t).run P w = .ok z w) : (Instr.typeAssert (.iface u v) x t true).run P w = .ok (.tuple #[z, .bool false]) w := by
  unfold Instr.typeAssert
  simp only [Sem.run_bind, run_underlying hu, Result.andThen_ok]
  cases U <;> first | (exact absurd rfl (hi _)) | simp [hne, hz]
theorem run_assert_nil (x t : TypeId) (z : Value) (U : TypeDesc) (hu : P.underlying t = some U) (hi : ∀ m, U ≠ .interface m) (hz : (zeroValue t).run P w = .ok z w) : (Instr.typeAssert .nilIface x t true).run P w = .ok (.tuple #[z, .bool false]) w := by
  unfold Instr.typeAssert
  simp only [Sem.run_bind, run_underlying hu, Result.andThen_ok]
  cases U <;> first | (exact absurd rfl (hi _)) | simp [hz]
theorem run_assert_must (x t : TypeId) (v : Value) (U : TypeDesc) (hu : P.underlying t = some U) (hi : ∀ m, U ≠ .interface m) : (Instr.typeAssert (.iface t v) x t false).run P w = .ok v w := by
  unfold Instr.typeAssert
  simp only [Sem.run_bind, run_underlying hu, Result.andThen_ok]
  cases U <;> first | (exact absurd rfl (hi _)) | simp
end
section
variable {w : World} (x : TypeId) (v : Value)
theorem as_bool_yes : (Instr.typeAssert (.iface 4 v) x 4 true).run Try.prog w = .ok (.tuple #[v, .bool true]) w := run_assert_yes _ _ _ _ Try.underlying4 (fun _ h => by cases h)
theorem as_u64_yes : (Instr.typeAssert (.iface 22 v) x 22 true).run Try.prog w = .ok (.tuple #[v, .bool true]) w := run_assert_yes _ _ _ _ Try.underlying22 (fun _ h => by cases h)
theorem as_text_yes : (Instr.typeAssert (.iface 9 v) x 9 true).run Try.prog w = .ok (.tuple #[v, .bool true]) w := run_assert_yes _ _ _ _ Try.underlying9 (fun _ h => by cases h)
theorem as_list_yes : (Instr.typeAssert (.iface 57 v) x 57 true).run Try.prog w = .ok (.tuple #[v, .bool true]) w := run_assert_yes _ _ _ _ Try.underlying57 (fun _ h => by cases h)
theorem as_pairs_yes : (Instr.typeAssert (.iface 61 v) x 61 true).run Try.prog w = .ok (.tuple #[v, .bool true]) w := run_assert_yes _ _ _ _ Try.underlying61 (fun _ h => by cases h)
theorem as_text_must : (Instr.typeAssert (.iface 9 v) x 9 false).run Try.prog w = .ok v w := run_assert_must _ _ _ _ Try.underlying9 (fun _ h => by cases h)
theorem as_u64_must : (Instr.typeAssert (.iface 22 v) x 22 false).run Try.prog w = .ok v w := run_assert_must _ _ _ _ Try.underlying22 (fun _ h => by cases h)
variable (u : TypeId)
theorem as_bool_no (h : u ≠ 4) : (Instr.typeAssert (.iface u v) x 4 true).run Try.prog w = .ok (.tuple #[.bool false, .bool false]) w := run_assert_no _ _ _ _ _ _ Try.underlying4 (fun _ h => by cases h) h (by simp [go_sem])
theorem as_u64_no (h : u ≠ 22) : (Instr.typeAssert (.iface u v) x 22 true).run Try.prog w = .ok (.tuple #[.int .u64 0, .bool false]) w := run_assert_no _ _ _ _ _ _ Try.underlying22 (fun _ h => by cases h) h (by simp [go_sem])
theorem as_text_no (h : u ≠ 9) : (Instr.typeAssert (.iface u v) x 9 true).run Try.prog w = .ok (.tuple #[.string ⟨#[]⟩, .bool false]) w := run_assert_no _ _ _ _ _ _ Try.underlying9 (fun _ h => by cases h) h (by simp [go_sem])
theorem as_list_no (h : u ≠ 57) : (Instr.typeAssert (.iface u v) x 57 true).run Try.prog w = .ok (.tuple #[.slice none 0 0, .bool false]) w := run_assert_no _ _ _ _ _ _ Try.underlying57 (fun _ h => by cases h) h (by simp [go_sem])
theorem as_pairs_no (h : u ≠ 61) : (Instr.typeAssert (.iface u v) x 61 true).run Try.prog w = .ok (.tuple #[.slice none 0 0, .bool false]) w := run_assert_no _ _ _ _ _ _ Try.underlying61 (fun _ h => by cases h) h (by simp [go_sem])
theorem as_bool_nil : (Instr.typeAssert .nilIface x 4 true).run Try.prog w = .ok (.tuple #[.bool false, .bool false]) w := run_assert_nil _ _ _ _ Try.underlying4 (fun _ h => by cases h) (by simp [go_sem])
theorem as_u64_nil : (Instr.typeAssert .nilIface x 22 true).run Try.prog w = .ok (.tuple #[.int .u64 0, .bool false]) w := run_assert_nil _ _ _ _ Try.underlying22 (fun _ h => by cases h) (by simp [go_sem])
theorem as_text_nil : (Instr.typeAssert .nilIface x 9 true).run Try.prog w = .ok (.tuple #[.string ⟨#[]⟩, .bool false]) w := run_assert_nil _ _ _ _ Try.underlying9 (fun _ h => by cases h) (by simp [go_sem])
theorem as_list_nil : (Instr.typeAssert .nilIface x 57 true).run Try.prog w = .ok (.tuple #[.slice none 0 0, .bool false]) w := run_assert_nil _ _ _ _ Try.underlying57 (fun _ h => by cases h) (by simp [go_sem])
theorem as_pairs_nil : (Instr.typeAssert .nilIface x 61 true).run Try.prog w = .ok (.tuple #[.slice none 0 0, .bool false]) w := run_assert_nil _ _ _ _ Try.underlying61 (fun _ h => by cases h) (by simp [go_sem])
end
end Go.Proofs.Ytinlcpenllfcpaa
