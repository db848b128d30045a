/- CallsNone: calls that are none. -/
import Derived.Test.YtllfehahjkbhiaaLaw14
import Derived.Test.YtllfehahjkbhiaaDeed14
namespace Go.Proofs.Ytllfehahjkbhiaa
open Go.RowKit Go.Lib
set_option linter.unusedSimpArgs false
set_option linter.unusedVariables false
set_option maxHeartbeats 4000000 in
set_option maxRecDepth 100000 in
theorem callsNone_at (w : World) (x : Deed14) (hx : x.Ok) : Calls Try.prog 6 #[.agg x.cells.toArray] w fun e w' => e = .returned (.bool true) ∧ Only [] w w' := by
  obtain ⟨k, a, b, s, m⟩ := x
  clear hx
  show Calls Try.prog 6 #[.agg #[.int .i64 k, .int .i64 a, .int .i64 b, .string s, .int .i64 m.kind, .int .i64 m.from_, .int .i64 m.to, .int .i64 m.id, .string m.body]] w _
  go_enter Try.func6, Try.ntmps6
  go_wp2_with fail
  refine (calCall_nil _ _ _ _).mono ?_
  rintro e w1 ⟨rfl, rfl⟩
  go_wp2_with fail
  refine (calState_nil _ _).mono ?_
  rintro e w1 ⟨rfl, rfl⟩
  go_wp2_with fail
  refine (calDue_nil _ _).mono ?_
  rintro e w1 ⟨rfl, rfl⟩
  go_wp2_with fail
  refine (calAnswer_nil m _).mono ?_
  rintro e w1 ⟨rfl, hO1⟩
  have hz : w1.heap[w.heap.size]? = some (.cells #[.int .i64 k, .int .i64 a, .int .i64 b, .string s, .int .i64 m.kind, .int .i64 m.from_, .int .i64 m.to, .int .i64 m.id, .string m.body] 34 (0, 0)) := hO1.keep (heap_alloc_at rfl) (by simp)
  have d1 : w1.cell? ⟨w.heap.size, 1, none⟩ = some (.int .i64 a) := cell_at hz rfl
  have HO1 := Lib.hid (((Only.refl [] w).alloc _).trans hO1)
  clear hO1 hz
  go_wp2_with fail
  refine (calForget_nil _ _).mono ?_
  rintro e w2 ⟨rfl, rfl⟩
  go_wp2_with fail
  refine (calOpen_nil _).mono ?_
  rintro e w2 ⟨rfl, rfl⟩
  go_wp2_with fail
  refine (awake_at _).mono ?_
  rintro e w2 ⟨rfl, hO2⟩
  have HO2 := Lib.hid (HO1.out.trans hO2)
  clear hO2
  go_wp2_with fail
  go_ret
  exact ⟨rfl, HO2.out⟩
end Go.Proofs.Ytllfehahjkbhiaa
