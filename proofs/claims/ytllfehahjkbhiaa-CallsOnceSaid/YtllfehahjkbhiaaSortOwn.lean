/- slices.Sort on a row of whole numbers that the call owns. -/
import Derived.Test.YtllfehahjkbhiaaShelf
import Derived.Test.YtllfehahjkbhiaaVisit
namespace Go.Proofs.Ytllfehahjkbhiaa
open Go.RowKit
set_option linter.unusedSimpArgs false
set_option linter.unusedVariables false
theorem sort_own {w : World} {base n : Nat} {v : Value} {zs : List Int} (hown : w.ownsRow base 3 1 v n (zs.map (Value.int .i64))) (hmany : zs.length < 4611686018427387904) :
    Calls Try.prog 33 #[v] w fun e w' => e = .returned (.tuple #[]) ∧ w'.ownsRow base 3 1 v n ((zs.mergeSort fun x y => decide (x ≤ y)).map (Value.int .i64)) ∧ w.grownBy w' v.ownBlock := by
  have hl : zs.length = n := by simpa using hown.1
  subst hl
  rcases hown.2 with ⟨rfl, h0⟩ | ⟨g, cap, cur, rfl, hbase, hb, h1, h2, h3, h4⟩
  · have : zs = [] := List.eq_nil_of_length_eq_zero h0
    subst this
    refine (Try.slices_Sort_int_none none 0 w).mono ?_
    rintro e w' ⟨rfl, rfl⟩
    exact ⟨rfl, by simpa using hown, World.grownBy.refl _ _⟩
  · have hh : Sort.Holds (Value.int .i64) w g 0 zs.toArray := holds_of_blockI hb (by simpa using h4)
    refine (Try.slices_Sort_int g 0 cap zs w hh (lt_of_heap hb) hmany).mono ?_
    rintro e w' ⟨rfl, n, os, rfl⟩
    exact ⟨rfl, by have := ownsRow_sortedI (n := n) (os := os) (ss := zs) (ts := zs.mergeSort fun x y => decide (x ≤ y)) (by simp) hbase hb h1 h2 h3; simpa using this, by simpa [Value.ownBlock] using grownBy_sortedI _⟩
end Go.Proofs.Ytllfehahjkbhiaa
