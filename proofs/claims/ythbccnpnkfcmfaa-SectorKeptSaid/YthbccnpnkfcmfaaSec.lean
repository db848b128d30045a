/- The device's functions: what each does to a device in memory. -/
import Derived.Test.YthbccnpnkfcmfaaProg
import Derived.Test.YthbccnpnkfcmfaaSecM
import Derived.KernelRfl
import Derived.Deep.LoopGhost
import Derived.Deep.QuietTactic
import Derived.BigQuiet
import Derived.WideLaws
namespace Go.Proofs.Ythbccnpnkfcmfaa
open Go.RowKit
set_option linter.unusedSimpArgs false
set_option linter.unusedVariables false

/-- What a map of loose sectors holds at a key. -/
def sureAt (S : List (Option ByteArray)) (k : Int) : Option Value := if 0 ≤ k then ((S[k.toNat]?).getD none).map Value.string else none
/-- A device in memory: its struct, its row of sectors, its map. -/
structure DevAt (w : World) (d bn bm : Nat) (D : Dev) : Prop where
  ok : D.Ok
  hd : w.heap[d]? = some (.cells #[.slice (some ⟨bn, 0, none⟩) D.now.length D.now.length, .map (some bm), .bool D.lost] 47 (0, 0))
  hn : w.heap[bn]? = some (.cells (D.now.map Value.string).toArray 9 (0, 0))
  hm : ∃ es ck l, w.heap[bm]? = some (.map es ck) ∧ MapOf es ck l ∧ ∀ k, mget k l = sureAt D.sure k
section
variable {w : World} {d bn bm : Nat} {D : Dev}
theorem DevAt.c0 (h : DevAt w d bn bm D) : w.cell? ⟨d, 0, none⟩ = some (.slice (some ⟨bn, 0, none⟩) D.now.length D.now.length) := cell_at h.hd rfl
theorem DevAt.c1 (h : DevAt w d bn bm D) : w.cell? ⟨d, 1, none⟩ = some (.map (some bm)) := cell_at h.hd rfl
theorem DevAt.c2 (h : DevAt w d bn bm D) : w.cell? ⟨d, 2, none⟩ = some (.bool D.lost) := cell_at h.hd rfl
theorem DevAt.ne1 (h : DevAt w d bn bm D) : d ≠ bn := by
  intro e; have h1 := h.hd; rw [e, h.hn] at h1; simp at h1
theorem DevAt.ne2 (h : DevAt w d bn bm D) : d ≠ bm := by
  intro e; obtain ⟨es, ck, l, hb, _⟩ := h.hm; have h1 := h.hd; rw [e, hb] at h1; simp at h1
theorem DevAt.ne3 (h : DevAt w d bn bm D) : bn ≠ bm := by
  intro e; obtain ⟨es, ck, l, hb, _⟩ := h.hm; have h1 := h.hn; rw [e, hb] at h1; simp at h1
theorem DevAt.keep {w' : World} (h : DevAt w d bn bm D) (h1 : w'.heap[d]? = w.heap[d]?) (h2 : w'.heap[bn]? = w.heap[bn]?) (h3 : w'.heap[bm]? = w.heap[bm]?) : DevAt w' d bn bm D :=
  ⟨h.ok, h1.trans h.hd, h2.trans h.hn, by obtain ⟨es, ck, l, hb, r⟩ := h.hm; exact ⟨es, ck, l, h3.trans hb, r⟩⟩
end

set_option maxHeartbeats 400000 in
theorem check_nil (at_ n : Int) (ok : Bool) (w : World) :
    Calls Try.prog 19 #[.pointer none, .int .i64 at_, .int .i64 n, .bool ok] w fun e w' => e = .returned (.int .i64 1) ∧ w = w' := by
  go_enter Try.func19, Try.ntmps19
  go_wp2
  go_ret
  exact ⟨rfl, rfl⟩
set_option maxHeartbeats 1000000 in
theorem check_at {w : World} {d bn bm : Nat} {D : Dev} (h : DevAt w d bn bm D) (at_ n : Int) (ok : Bool) :
    Calls Try.prog 19 #[.pointer (some ⟨d, 0, none⟩), .int .i64 at_, .int .i64 n, .bool ok] w fun e w' => e = .returned (.int .i64 (D.check at_ n ok)) ∧ w = w' := by
  have c0 := h.c0
  have c2 := h.c2
  have hp := h.ok.pos
  have hm := h.ok.most
  clear h
  unfold Dev.check
  obtain ⟨now, sure, lost⟩ := D
  dsimp only at *
  generalize now.length = len at *

  by_cases h1 : at_ < 0
  · rw [if_pos (.inl h1)]
    go_enter Try.func19, Try.ntmps19
    go_wp2
    go_ret
    exact ⟨rfl, rfl⟩
  by_cases h2 : n < 1
  · rw [if_pos (.inr (.inl h2))]
    go_enter Try.func19, Try.ntmps19
    go_wp2
    go_ret
    exact ⟨rfl, rfl⟩
  cases ok
  · rw [if_pos (.inr (.inr rfl))]
    go_enter Try.func19, Try.ntmps19
    go_wp2
    go_ret
    exact ⟨rfl, rfl⟩
  rw [if_neg (by simp [h1, h2])]
  by_cases h3 : (len : Int) < at_
  · rw [if_pos (.inl h3)]
    go_enter Try.func19, Try.ntmps19
    go_wp2
    go_ret
    exact ⟨rfl, rfl⟩
  by_cases h4 : (len : Int) - at_ < n
  · rw [if_pos (.inr h4)]
    go_enter Try.func19, Try.ntmps19
    go_wp2
    go_ret
    exact ⟨rfl, rfl⟩
  rw [if_neg (by simp [h3, h4])]
  cases lost
  · rw [if_neg (by simp)]
    go_enter Try.func19, Try.ntmps19
    go_wp2
    go_ret
    exact ⟨rfl, rfl⟩
  · rw [if_pos rfl]
    go_enter Try.func19, Try.ntmps19
    go_wp2
    go_ret
    exact ⟨rfl, rfl⟩
end Go.Proofs.Ythbccnpnkfcmfaa
