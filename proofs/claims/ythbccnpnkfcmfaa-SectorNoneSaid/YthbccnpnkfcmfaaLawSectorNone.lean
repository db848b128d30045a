/- SectorNone: a device that is none. -/
import Derived.Test.YthbccnpnkfcmfaaLaw9
import Derived.Test.YthbccnpnkfcmfaaDeed9
namespace Go.Proofs.Ythbccnpnkfcmfaa
open Go.RowKit Go.Lib
set_option linter.unusedSimpArgs false
set_option linter.unusedVariables false
set_option maxHeartbeats 4000000 in
set_option maxRecDepth 100000 in
theorem sectorNone_at (w : World) (x : Deed9) (hx : x.Ok) : Calls Try.prog 6 #[.agg x.cells.toArray] w fun e w' => e = .returned (.bool true) ∧ Only [] w w' := by
  obtain ⟨k, a, n, s, q⟩ := x
  have hs : s.size ≤ maxLen := hx.text
  have HS := Lib.hid hs
  unfold maxLen at hs
  clear hx
  show Calls Try.prog 6 #[.agg #[.int .i64 k, .int .i64 a, .int .i64 n, .string s, .int .u64 q]] w _
  go_enter Try.func6, Try.ntmps6
  go_wp2_with (first | (go_at_call 11; refine (flush_nil _).mono ?_; rintro e w' ⟨rfl, rfl⟩) | (go_at_call 15; refine (crash_nil _ _ _).mono ?_; rintro e w' ⟨rfl, rfl⟩) | (go_at_call 17; refine (lose_nil _).mono ?_; rintro e w' ⟨rfl, rfl⟩) | (go_at_call 12; refine (read_nil _ _ _).mono ?_; rintro e w' ⟨rfl, rfl⟩) | (go_at_call 10; refine (write_nil _ _ _ HS.out).mono ?_; rintro e w' ⟨rfl, rfl⟩) | (go_at_call 13; refine (sectors_nil _).mono ?_; rintro e w' ⟨rfl, rfl⟩) | (go_at_call 14; refine (loose_nil _).mono ?_; rintro e w' ⟨rfl, rfl⟩) | (go_at_call 8; refine (awake_at _).mono ?_; rintro e w1 ⟨rfl, hO⟩))
  go_ret
  exact ⟨rfl, ((Only.refl _ _).alloc _).trans hO⟩
end Go.Proofs.Ythbccnpnkfcmfaa
