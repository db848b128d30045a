/- The deeds of the calls' statements, as plain data. -/
import Derived.Test.YtllfehahjkbhiaaProg
import Derived.Test.YtllfehahjkbhiaaOpen
import Derived.Test.YtllfehahjkbhiaaCalAns
import Derived.KernelRfl
namespace Go.Proofs.Ytllfehahjkbhiaa
set_option linter.unusedSimpArgs false
set_option linter.unusedVariables false
structure Deed14 where
  kind : Int
  a : Int
  b : Int
  body : ByteArray
  m : Mg
def Deed14.cells (d : Deed14) : List Value := [.int .i64 d.kind, .int .i64 d.a, .int .i64 d.b, .string d.body, .int .i64 d.m.kind, .int .i64 d.m.from_, .int .i64 d.m.to, .int .i64 d.m.id, .string d.m.body]
def Deed14.zero : Array Value := #[.int .i64 0, .int .i64 0, .int .i64 0, .string ByteArray.empty, .int .i64 0, .int .i64 0, .int .i64 0, .int .i64 0, .string ByteArray.empty]
structure Deed14.Ok (d : Deed14) : Prop where
  body : d.body.size ≤ maxLen
  mbody : d.m.body.size ≤ maxLen
def mgKinds : List Kd := [[Kd.int .i64], [Kd.int .i64], [Kd.int .i64], [Kd.int .i64], [Kd.str]].flatten
def Deed14.kinds : List Kd := [[Kd.int .i64], [Kd.int .i64], [Kd.int .i64], [Kd.str], mgKinds].flatten
theorem flat_i64 : Flat Try.prog 3 [.int .i64] := .int Try.underlying3 (by kernel_rfl)
theorem flat_text : Flat Try.prog 9 [.str] := .str Try.underlying9 (by kernel_rfl)
theorem flat_mg : Flat Try.prog 32 mgKinds := by
  refine .struct Try.underlying32 (by kernel_rfl) rfl ?_ ?_
  · intro i f ks hf hk
    match i, hf, hk with
    | 0, hf, hk => cases hf; cases hk; exact flat_i64
    | 1, hf, hk => cases hf; cases hk; exact flat_i64
    | 2, hf, hk => cases hf; cases hk; exact flat_i64
    | 3, hf, hk => cases hf; cases hk; exact flat_i64
    | 4, hf, hk => cases hf; cases hk; exact flat_text
    | n + 5, hf, hk => simp at hk
  · intro i f ks hf hk
    match i, hf, hk with
    | 0, hf, hk => cases hf; cases hk; exact ⟨by kernel_rfl, rfl⟩
    | 1, hf, hk => cases hf; cases hk; exact ⟨by kernel_rfl, rfl⟩
    | 2, hf, hk => cases hf; cases hk; exact ⟨by kernel_rfl, rfl⟩
    | 3, hf, hk => cases hf; cases hk; exact ⟨by kernel_rfl, rfl⟩
    | 4, hf, hk => cases hf; cases hk; exact ⟨by kernel_rfl, rfl⟩
    | n + 5, hf, hk => simp at hk
theorem Deed14.flat : Flat Try.prog 34 Deed14.kinds := by
  refine .struct Try.underlying34 (by kernel_rfl) rfl ?_ ?_
  · intro i f ks hf hk
    match i, hf, hk with
    | 0, hf, hk => cases hf; cases hk; exact flat_i64
    | 1, hf, hk => cases hf; cases hk; exact flat_i64
    | 2, hf, hk => cases hf; cases hk; exact flat_i64
    | 3, hf, hk => cases hf; cases hk; exact flat_text
    | 4, hf, hk => cases hf; cases hk; exact flat_mg
    | n + 5, hf, hk => simp at hk
  · intro i f ks hf hk
    match i, hf, hk with
    | 0, hf, hk => cases hf; cases hk; exact ⟨by kernel_rfl, rfl⟩
    | 1, hf, hk => cases hf; cases hk; exact ⟨by kernel_rfl, rfl⟩
    | 2, hf, hk => cases hf; cases hk; exact ⟨by kernel_rfl, rfl⟩
    | 3, hf, hk => cases hf; cases hk; exact ⟨by kernel_rfl, rfl⟩
    | 4, hf, hk => cases hf; cases hk; exact ⟨by kernel_rfl, rfl⟩
    | n + 5, hf, hk => simp at hk
theorem Deed14.dec : ∀ cs, AllIs Deed14.kinds cs → ∃ d, Deed14.cells d = cs ∧ Deed14.Ok d := by
  intro cs h
  have hl := h.length
  match cs, hl, h with
  | [a, b, c, d, e, f, g, i, j], _, h =>
    obtain ⟨⟨a, rfl, _⟩, ⟨b, rfl, _⟩, ⟨c, rfl, _⟩, ⟨d, rfl, hd⟩, ⟨e, rfl, _⟩, ⟨f, rfl, _⟩, ⟨g, rfl, _⟩, ⟨i, rfl, _⟩, ⟨j, rfl, hj⟩, _⟩ := h
    exact ⟨⟨a, b, c, d, ⟨e, f, g, i, j⟩⟩, rfl, ⟨hd, hj⟩⟩
end Go.Proofs.Ytllfehahjkbhiaa
