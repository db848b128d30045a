/- The calls' example. -/
import Derived.Test.YtllfehahjkbhiaaCalDue
import Derived.Test.YtllfehahjkbhiaaCalOpen
import Derived.Test.YtllfehahjkbhiaaCal1
import Derived.Test.YtllfehahjkbhiaaRowOwn
namespace Go.Proofs.Ytllfehahjkbhiaa
open Go.RowKit Go.Lib
set_option linter.unusedSimpArgs false
set_option linter.unusedVariables false
theorem newer {F F' : List Nat} {w w' w0 : World} (h : ∀ b ∈ F', b ∈ F ∨ w.heap.size ≤ b) (h0 : ∀ b ∈ F, w0.heap.size ≤ b) (hs : w0.heap.size ≤ w.heap.size) : ∀ b ∈ F', w0.heap.size ≤ b := fun b hb => by
  rcases h b hb with h1 | h1
  · exact h0 b h1
  · omega
theorem mg_len (m : Mg) : m.cells.length = 5 := rfl
def cA : ByteArray := ⟨#[97]⟩
def cB : ByteArray := ⟨#[98]⟩
/-- The example's one call. -/
def k14 (n : Nat) (due : Int) : Kc := ⟨7, 3, n, due, ⟨#[97]⟩, 1, ByteArray.empty⟩
def C14 (n : Nat) (due : Int) : Cs := ⟨2, 8, [k14 n due]⟩
def C14b : Cs := ⟨2, 8, [⟨7, 3, 3, 28, ⟨#[97]⟩, 2, ⟨#[98]⟩⟩]⟩
theorem a14a : ccall (cnew 2 7) 3 ⟨#[97]⟩ 0 = (C14 0 0, 7, 0) := by
  unfold ccall
  rw [if_neg (by decide), if_neg (by decide), if_neg (by decide)]; rfl
theorem a14b : ccall (C14 0 0) 64 ⟨#[97]⟩ 0 = (C14 0 0, 0, 1) := by
  unfold ccall
  rw [if_pos (by decide)]
theorem a14c : cdue (C14 0 0) 0 = (C14 1 4, [⟨1, 2, 3, 7, ⟨#[97]⟩⟩]) := cdue_again (k := k14 0 0) (by decide) rfl (by decide) (by decide)
theorem a14d : cdue (C14 1 4) 3 = (C14 1 4, []) := cdue_still (k := k14 1 4) rfl (by decide)
theorem a14e : cdue (C14 1 4) 4 = (C14 2 12, [⟨1, 2, 3, 7, ⟨#[97]⟩⟩]) := cdue_again (k := k14 1 4) (by decide) rfl (by decide) (by decide)
theorem a14f : cdue (C14 2 12) 12 = (C14 3 28, [⟨1, 2, 3, 7, ⟨#[97]⟩⟩]) := cdue_again (k := k14 2 12) (by decide) rfl (by decide) (by decide)
theorem a14g : canswer (C14 3 28) ⟨2, 4, 2, 7, ByteArray.empty⟩ = (C14 3 28, false) := rfl
theorem a14h : canswer (C14 3 28) ⟨2, 3, 2, 7, ⟨#[98]⟩⟩ = (C14b, true) := rfl
theorem a14i : cstate C14b 7 = (2, ⟨#[98]⟩) := rfl
theorem a14j : cforget C14b 7 = (⟨2, 8, []⟩, true) := rfl
theorem a14k : cforget ⟨2, 8, []⟩ 7 = (⟨2, 8, []⟩, false) := rfl
set_option maxHeartbeats 4000000 in
set_option maxRecDepth 100000 in
theorem awake_at (w : World) : Calls Try.prog 8 #[] w fun e w' => e = .returned (.bool true) ∧ Only [] w w' := by
  go_enter Try.func8, Try.ntmps8
  go_wp2_with fail
  refine (calNew_at 2 7 _).mono ?_
  rintro e w1 ⟨c, F1, rfl, hC1, hO1, hF1⟩
  have HC1 := Lib.hid hC1
  have HO1 := Lib.hid hO1
  have HF1 := Lib.hid hF1
  clear hC1 hO1 hF1
  go_wp2_with fail
  refine (calCall_at HC1.out 3 _ 0 (by decide)).mono ?_
  unfold CallPost
  rw [a14a]
  rintro e w2 ⟨rfl, F2, hC2, hO2, hF2⟩
  have HC2 := Lib.hid hC2
  have HF2 := Lib.hid (newer (w' := w2) hF2 HF1.out HO1.out.size)
  have HO2 := Lib.hid (HO1.out.call hO2 (fun b hb => .inr (HF1.out b hb)))
  clear hC2 hO2 hF2
  go_wp2_with fail
  refine (calCall_at HC2.out 64 _ 0 (by decide)).mono ?_
  unfold CallPost
  rw [a14b]
  rintro e w3 ⟨rfl, F3, hC3, hO3, hF3⟩
  have HC3 := Lib.hid hC3
  have HF3 := Lib.hid (newer (w' := w3) hF3 HF2.out HO2.out.size)
  have HO3 := Lib.hid (HO2.out.call hO3 (fun b hb => .inr (HF2.out b hb)))
  clear hC3 hO3 hF3
  go_wp2_with fail
  refine (calDue_at HC3.out 0).mono ?_
  rw [a14c]
  rintro e w4 ⟨v4, rfl, hv4, F4, hC4, hO4, hF4, hg4⟩
  obtain ⟨a4, k4, rfl, hR4, hb4⟩ := rows_own mg_len (by decide) hv4
  obtain ⟨b4, o4, rfl, hcl⟩ := hR4 0 _ rfl
  have hn4 : b4 ∉ F4 := hg4 b4 (hb4 b4 o4 rfl).2.1
  have e0_4 : w4.cell? ⟨b4, o4, none⟩ = some (.int .i64 1) := hcl 0 _ rfl
  have e1_4 : w4.cell? ⟨b4, o4 + 1, none⟩ = some (.int .i64 2) := hcl 1 _ rfl
  have e2_4 : w4.cell? ⟨b4, o4 + 2, none⟩ = some (.int .i64 3) := hcl 2 _ rfl
  have e3_4 : w4.cell? ⟨b4, o4 + 3, none⟩ = some (.int .i64 7) := hcl 3 _ rfl
  have e4_4 : w4.cell? ⟨b4, o4 + 4, none⟩ = some (.string ⟨#[97]⟩) := hcl 4 _ rfl
  have hl4 := World.block_lt_of_cell? _ _ e0_4
  dsimp only at hl4
  have HN4 := Lib.hid hn4
  have HC4 := Lib.hid hC4
  have HF4 := Lib.hid (newer (w' := w4) hF4 HF3.out HO3.out.size)
  have HO4 := Lib.hid (HO3.out.call hO4 (fun b hb => .inr (HF3.out b hb)))
  clear hv4 hC4 hO4 hF4 hg4 hR4 hb4 hn4 hcl
  go_wp2_with fail
  refine (calDue_at HC4.out 3).mono ?_
  rw [a14d]
  rintro e w5 ⟨v5, rfl, hv5, F5, hC5, hO5, hF5, hg5⟩
  obtain ⟨a5, k5, rfl, _, _⟩ := rows_own mg_len (by decide) hv5
  have e0_5 := hO5.cell e0_4 HN4.out
  have e1_5 := hO5.cell e1_4 HN4.out
  have e2_5 := hO5.cell e2_4 HN4.out
  have e3_5 := hO5.cell e3_4 HN4.out
  have e4_5 := hO5.cell e4_4 HN4.out
  have hn5 : b4 ∉ F5 := fun hm => by
    rcases hF5 b4 hm with h | h
    · exact HN4.out h
    · omega
  have hl5 : b4 < w5.heap.size := Nat.lt_of_lt_of_le hl4 hO5.size
  have HN5 := Lib.hid hn5
  have HC5 := Lib.hid hC5
  have HF5 := Lib.hid (newer (w' := w5) hF5 HF4.out HO4.out.size)
  have HO5 := Lib.hid (HO4.out.call hO5 (fun b hb => .inr (HF4.out b hb)))
  clear hv5 hC5 hO5 hF5 hg5 hn5 hl4 e0_4 e1_4 e2_4 e3_4 e4_4
  go_wp2_with fail
  refine (calDue_at HC5.out 4).mono ?_
  rw [a14e]
  rintro e w6 ⟨v6, rfl, hv6, F6, hC6, hO6, hF6, hg6⟩
  obtain ⟨a6, k6, rfl, _, _⟩ := rows_own mg_len (by decide) hv6
  have e0_6 := hO6.cell e0_5 HN5.out
  have e1_6 := hO6.cell e1_5 HN5.out
  have e2_6 := hO6.cell e2_5 HN5.out
  have e3_6 := hO6.cell e3_5 HN5.out
  have e4_6 := hO6.cell e4_5 HN5.out
  have hn6 : b4 ∉ F6 := fun hm => by
    rcases hF6 b4 hm with h | h
    · exact HN5.out h
    · omega
  have hl6 : b4 < w6.heap.size := Nat.lt_of_lt_of_le hl5 hO6.size
  have HN6 := Lib.hid hn6
  have HC6 := Lib.hid hC6
  have HF6 := Lib.hid (newer (w' := w6) hF6 HF5.out HO5.out.size)
  have HO6 := Lib.hid (HO5.out.call hO6 (fun b hb => .inr (HF5.out b hb)))
  clear hv6 hC6 hO6 hF6 hg6 hn6 hl5 e0_5 e1_5 e2_5 e3_5 e4_5
  go_wp2_with fail
  refine (calDue_at HC6.out 12).mono ?_
  rw [a14f]
  rintro e w7 ⟨v7, rfl, hv7, F7, hC7, hO7, hF7, hg7⟩
  obtain ⟨a7, k7, rfl, _, _⟩ := rows_own mg_len (by decide) hv7
  have e0_7 := hO7.cell e0_6 HN6.out
  have e1_7 := hO7.cell e1_6 HN6.out
  have e2_7 := hO7.cell e2_6 HN6.out
  have e3_7 := hO7.cell e3_6 HN6.out
  have e4_7 := hO7.cell e4_6 HN6.out
  have hn7 : b4 ∉ F7 := fun hm => by
    rcases hF7 b4 hm with h | h
    · exact HN6.out h
    · omega
  have hl7 : b4 < w7.heap.size := Nat.lt_of_lt_of_le hl6 hO7.size
  have HN7 := Lib.hid hn7
  have HC7 := Lib.hid hC7
  have HF7 := Lib.hid (newer (w' := w7) hF7 HF6.out HO6.out.size)
  have HO7 := Lib.hid (HO6.out.call hO7 (fun b hb => .inr (HF6.out b hb)))
  clear hv7 hC7 hO7 hF7 hg7 hn7 hl6 e0_6 e1_6 e2_6 e3_6 e4_6
  go_wp2_with fail
  refine wp_value (.agg #[.int .i64 2, .int .i64 4, .int .i64 2, .int .i64 7, .string ByteArray.empty]) (by kernel_rfl) ?_
  (try simp only [Act.put, List.setIfInBounds_toArray, List.set_cons_zero, List.set_cons_succ])
  go_wp2_with fail
  refine (calAnswer_at HC7.out ⟨2, 4, 2, 7, ByteArray.empty⟩).mono ?_
  rw [a14g]
  rintro e w8 ⟨rfl, hC8, hO8⟩
  have e0_8 := hO8.cell e0_7 HN7.out
  have e1_8 := hO8.cell e1_7 HN7.out
  have e2_8 := hO8.cell e2_7 HN7.out
  have e3_8 := hO8.cell e3_7 HN7.out
  have e4_8 := hO8.cell e4_7 HN7.out
  have HC8 := Lib.hid hC8
  have HO8 := Lib.hid (HO7.out.call hO8 (fun b hb => .inr (HF7.out b hb)))
  clear hC8 hO8 e0_7 e1_7 e2_7 e3_7 e4_7
  go_wp2_with fail
  refine wp_value (.agg #[.int .i64 2, .int .i64 3, .int .i64 2, .int .i64 7, .string ⟨#[98]⟩]) (by kernel_rfl) ?_
  (try simp only [Act.put, List.setIfInBounds_toArray, List.set_cons_zero, List.set_cons_succ])
  go_wp2_with fail
  refine (calAnswer_at HC8.out ⟨2, 3, 2, 7, ⟨#[98]⟩⟩).mono ?_
  rw [a14h]
  rintro e w9 ⟨rfl, hC9, hO9⟩
  have e0_9 := hO9.cell e0_8 HN7.out
  have e1_9 := hO9.cell e1_8 HN7.out
  have e2_9 := hO9.cell e2_8 HN7.out
  have e3_9 := hO9.cell e3_8 HN7.out
  have e4_9 := hO9.cell e4_8 HN7.out
  have HC9 := Lib.hid hC9
  have HO9 := Lib.hid (HO8.out.call hO9 (fun b hb => .inr (HF7.out b hb)))
  clear hC9 hO9 e0_8 e1_8 e2_8 e3_8 e4_8
  go_wp2_with fail
  refine (calState_at HC9.out 7).mono ?_
  rw [a14i]
  rintro e w10 ⟨rfl, hO10⟩
  have e0_10 := hO10.cell e0_9 (by simp)
  have e1_10 := hO10.cell e1_9 (by simp)
  have e2_10 := hO10.cell e2_9 (by simp)
  have e3_10 := hO10.cell e3_9 (by simp)
  have e4_10 := hO10.cell e4_9 (by simp)
  have HC10 := Lib.hid (HC9.out.only hO10 (by simp))
  have HO10 := Lib.hid (HO9.out.trans hO10)
  clear hO10 e0_9 e1_9 e2_9 e3_9 e4_9
  go_wp2_with fail
  refine wp_value (.agg #[.int .i64 1, .int .i64 2, .int .i64 3, .int .i64 7, .string ⟨#[97]⟩]) (by kernel_rfl) ?_
  (try simp only [Act.put, List.setIfInBounds_toArray, List.set_cons_zero, List.set_cons_succ])
  go_wp2_with fail
  refine (calForget_at HC10.out 7).mono ?_
  rw [a14j]
  rintro e w11 ⟨rfl, F11, hC11, hO11, hF11⟩
  have HC11 := Lib.hid hC11
  have HF11 := Lib.hid (fun b hb => HF7.out b (hF11 b hb))
  have HO11 := Lib.hid (HO10.out.call hO11 (fun b hb => .inr (HF7.out b hb)))
  clear hC11 hO11 hF11
  go_wp2_with fail
  refine (calForget_at HC11.out 7).mono ?_
  rw [a14k]
  rintro e w12 ⟨rfl, F12, hC12, hO12, hF12⟩
  have HO12 := Lib.hid (HO11.out.call hO12 (fun b hb => .inr (HF11.out b hb)))
  clear hC12 hO12 hF12
  go_wp2_with fail
  go_ret
  exact ⟨rfl, HO12.out⟩
end Go.Proofs.Ytllfehahjkbhiaa
