/- The deeds of the timers' statements, as plain data. -/
import Derived.Test.YtimhccpfgpiecaaProg
import Derived.Test.YtimhccpfgpiecaaOpen
import Derived.KernelRfl
namespace Go.Proofs.Ytimhccpfgpiecaa
set_option linter.unusedSimpArgs false
set_option linter.unusedVariables false
structure Deed7 where
  kind : Int
  id : Int
  at_ : Int
def Deed7.cells (d : Deed7) : List Value := [.int .i64 d.kind, .int .i64 d.id, .int .i64 d.at_]
def Deed7.zero : Array Value := #[.int .i64 0, .int .i64 0, .int .i64 0]
structure Deed7.Ok (d : Deed7) : Prop where
  triv : True
def Deed7.kinds : List Kd := [[Kd.int .i64], [Kd.int .i64], [Kd.int .i64]].flatten
theorem flat_i64 : Flat Try.prog 3 [.int .i64] := .int Try.underlying3 (by kernel_rfl)
theorem Deed7.flat : Flat Try.prog 28 Deed7.kinds := by
  refine .struct Try.underlying28 (by kernel_rfl) rfl ?_ ?_
  · intro i f ks hf hk
    match i, hf, hk with
    | 0, hf, hk => cases hf; cases hk; exact flat_i64
    | 1, hf, hk => cases hf; cases hk; exact flat_i64
    | 2, hf, hk => cases hf; cases hk; exact flat_i64
    | n + 3, hf, hk => simp at hk
  · intro i f ks hf hk
    match i, hf, hk with
    | 0, hf, hk => cases hf; cases hk; exact ⟨by kernel_rfl, rfl⟩
    | 1, hf, hk => cases hf; cases hk; exact ⟨by kernel_rfl, rfl⟩
    | 2, hf, hk => cases hf; cases hk; exact ⟨by kernel_rfl, rfl⟩
    | n + 3, hf, hk => simp at hk
theorem Deed7.dec : ∀ cs, AllIs Deed7.kinds cs → ∃ d, Deed7.cells d = cs ∧ Deed7.Ok d
  | [a, b, c], h => by
    obtain ⟨⟨a, rfl, _⟩, ⟨b, rfl, _⟩, ⟨c, rfl, _⟩, _⟩ := h
    exact ⟨⟨a, b, c⟩, rfl, ⟨trivial⟩⟩
  | [], h => h.elim
  | [_], h => h.2.elim
  | [_, _], h => h.2.2.elim
  | _ :: _ :: _ :: _ :: _, h => h.2.2.2.elim
end Go.Proofs.Ytimhccpfgpiecaa
