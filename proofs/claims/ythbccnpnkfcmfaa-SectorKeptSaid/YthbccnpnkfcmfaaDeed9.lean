/- The deeds of the sector's statements, as plain data. -/
import Derived.Test.YthbccnpnkfcmfaaProg
import Derived.Test.YthbccnpnkfcmfaaOpen
import Derived.KernelRfl
namespace Go.Proofs.Ythbccnpnkfcmfaa
set_option linter.unusedSimpArgs false
set_option linter.unusedVariables false
structure Deed9 where
  kind : Int
  at_ : Int
  n : Int
  text : ByteArray
  keep : Int
def Deed9.cells (d : Deed9) : List Value := [.int .i64 d.kind, .int .i64 d.at_, .int .i64 d.n, .string d.text, .int .u64 d.keep]
def Deed9.zero : Array Value := #[.int .i64 0, .int .i64 0, .int .i64 0, .string ByteArray.empty, .int .u64 0]
structure Deed9.Ok (d : Deed9) : Prop where
  text : d.text.size ≤ maxLen
  keep : (Lit.int .u64 d.keep).wf = true
def Deed9.kinds : List Kd := [[Kd.int .i64], [Kd.int .i64], [Kd.int .i64], [Kd.str], [Kd.int .u64]].flatten
theorem flat_i64 : Flat Try.prog 3 [.int .i64] := .int Try.underlying3 (by kernel_rfl)
theorem flat_u64 : Flat Try.prog 23 [.int .u64] := .int Try.underlying23 (by kernel_rfl)
theorem flat_str : Flat Try.prog 9 [.str] := .str Try.underlying9 (by kernel_rfl)
theorem Deed9.flat : Flat Try.prog 29 Deed9.kinds := by
  refine .struct Try.underlying29 (by kernel_rfl) rfl ?_ ?_
  · intro i f ks hf hk
    match i, hf, hk with
    | 0, hf, hk => cases hf; cases hk; exact flat_i64
    | 1, hf, hk => cases hf; cases hk; exact flat_i64
    | 2, hf, hk => cases hf; cases hk; exact flat_i64
    | 3, hf, hk => cases hf; cases hk; exact flat_str
    | 4, hf, hk => cases hf; cases hk; exact flat_u64
    | n + 5, hf, hk => simp at hk
  · intro i f ks hf hk
    match i, hf, hk with
    | 0, hf, hk => cases hf; cases hk; exact ⟨by kernel_rfl, rfl⟩
    | 1, hf, hk => cases hf; cases hk; exact ⟨by kernel_rfl, rfl⟩
    | 2, hf, hk => cases hf; cases hk; exact ⟨by kernel_rfl, rfl⟩
    | 3, hf, hk => cases hf; cases hk; exact ⟨by kernel_rfl, rfl⟩
    | 4, hf, hk => cases hf; cases hk; exact ⟨by kernel_rfl, rfl⟩
    | n + 5, hf, hk => simp at hk
theorem Deed9.dec : ∀ cs, AllIs Deed9.kinds cs → ∃ d, Deed9.cells d = cs ∧ Deed9.Ok d
  | [a, b, c, d, e], h => by
    obtain ⟨⟨a, rfl, _⟩, ⟨b, rfl, _⟩, ⟨c, rfl, _⟩, ⟨s, rfl, hs⟩, ⟨q, rfl, hq⟩, _⟩ := h
    exact ⟨⟨a, b, c, s, q⟩, rfl, hs, hq⟩
  | [], h => h.elim
  | [_], h => h.2.elim
  | [_, _], h => h.2.2.elim
  | [_, _, _], h => h.2.2.2.elim
  | [_, _, _, _], h => h.2.2.2.2.elim
  | _ :: _ :: _ :: _ :: _ :: _ :: _, h => h.2.2.2.2.2.elim
end Go.Proofs.Ythbccnpnkfcmfaa
