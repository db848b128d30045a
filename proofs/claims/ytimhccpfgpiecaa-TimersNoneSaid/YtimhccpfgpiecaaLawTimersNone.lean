/- TimersNone: timers that are none. -/
import Derived.Test.YtimhccpfgpiecaaLaw7
import Derived.Test.YtimhccpfgpiecaaDeed7
namespace Go.Proofs.Ytimhccpfgpiecaa
open Go.RowKit Go.Lib
set_option linter.unusedSimpArgs false
set_option linter.unusedVariables false
theorem timAll_nil (w : World) : Calls Try.prog 18 #[.pointer none] w fun e w' => e = .returned (.slice none 0 0) ∧ Only [] w w' := by
  go_enter Try.func18, Try.ntmps18
  go_wp2_with fail
  go_ret
  exact ⟨rfl, (Only.refl _ _).alloc _⟩
set_option maxHeartbeats 4000000 in
set_option maxRecDepth 100000 in
theorem timersNone_at (w : World) (x : Deed7) (hx : x.Ok) : Calls Try.prog 5 #[.agg x.cells.toArray] w fun e w' => e = .returned (.bool true) ∧ Only [] w w' := by
  obtain ⟨k, i, a⟩ := x
  clear hx
  show Calls Try.prog 5 #[.agg #[.int .i64 k, .int .i64 i, .int .i64 a]] w _
  go_enter Try.func5, Try.ntmps5
  go_wp2_with fail
  refine (timNext_nil _).mono ?_
  rintro e w1 ⟨rfl, hO1⟩
  have hz : w1.heap[w.heap.size]? = some (.cells #[.int .i64 k, .int .i64 i, .int .i64 a] 28 (0, 0)) := hO1.keep (heap_alloc_at rfl) (by simp)
  have d1 := cell_at (o := 1) hz rfl
  have d2 := cell_at (o := 2) hz rfl
  have hlt := lt_of_heap hz
  have hne : w.heap.size ≠ w1.heap.size := by omega
  have HO1 := Lib.hid (((Only.refl [] w).alloc _).trans hO1)
  have HZ := Lib.hid hz
  clear hO1 hz
  have hOA : Only [] w1 (w1.alloc (.cells #[.int .i64 0, .int .i64 0] 42)) := (Only.refl [] w1).alloc _
  have hzA := hOA.keep HZ.out (by simp)
  have hnA : (w1.alloc (.cells #[.int .i64 0, .int .i64 0] 42)).heap[w1.heap.size]? = some (.cells #[.int .i64 0, .int .i64 0] 42 (0, 0)) := heap_alloc_at rfl
  have HOA := Lib.hid (HO1.out.trans hOA)
  have q1 := cell_at (o := 1) hzA rfl
  have q2 := cell_at (o := 2) hzA rfl
  have HNA := Lib.hid hnA
  clear hzA hnA d1 d2
  go_wp2_with fail
  refine (timSet_nil _ _ _).mono ?_
  rintro e w2 ⟨rfl, rfl⟩
  go_wp2_with fail
  refine (timStop_nil _ _).mono ?_
  rintro e w2 ⟨rfl, rfl⟩
  go_wp2_with fail
  refine (timDue_nil _ _).mono ?_
  rintro e w2 ⟨rfl, hO2⟩
  have hn2 := hO2.keep HNA.out (by simp)
  have n0 := cell_at (o := 0) hn2 rfl
  have n1 := cell_at (o := 1) hn2 rfl
  have HO2 := Lib.hid (HOA.out.trans hO2)
  clear hO2 hn2
  go_wp2_with fail
  refine (timLen_nil _).mono ?_
  rintro e w3 ⟨rfl, rfl⟩
  go_wp2_with fail
  refine (timAll_nil _).mono ?_
  rintro e w3 ⟨rfl, hO3⟩
  have HO3 := Lib.hid (HO2.out.trans hO3)
  clear hO3
  go_wp2_with fail
  refine (awake_at _).mono ?_
  rintro e w4 ⟨rfl, hO4⟩
  have HO4 := Lib.hid (HO3.out.trans hO4)
  clear hO4
  go_wp2_with fail
  go_ret
  exact ⟨rfl, HO4.out⟩
end Go.Proofs.Ytimhccpfgpiecaa
