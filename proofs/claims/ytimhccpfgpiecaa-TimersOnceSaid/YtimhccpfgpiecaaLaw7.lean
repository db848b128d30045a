/- The timers' example. -/
import Derived.Test.YtimhccpfgpiecaaTimDue
import Derived.Test.YtimhccpfgpiecaaInts
namespace Go.Proofs.Ytimhccpfgpiecaa
open Go.RowKit Go.Lib
set_option linter.unusedSimpArgs false
set_option linter.unusedVariables false
/-- The blocks of timers after a call: as before, or new. -/
theorem newer {F F' : List Nat} {w w' w0 : World} (h : ∀ b ∈ F', b ∈ F ∨ w.heap.size ≤ b) (h0 : ∀ b ∈ F, w0.heap.size ≤ b) (hs : w0.heap.size ≤ w.heap.size) : ∀ b ∈ F', w0.heap.size ≤ b := fun b hb => by
  rcases h b hb with h1 | h1
  · exact h0 b h1
  · omega
theorem t7a : tset [] 1 5 = ([⟨1, 5⟩], 0) := by decide
theorem t7b : tset [⟨1, 5⟩] 2 5 = ([⟨1, 5⟩, ⟨2, 5⟩], 0) := by decide
theorem t7c : tset [⟨1, 5⟩, ⟨2, 5⟩] 0 9 = ([⟨1, 5⟩, ⟨2, 5⟩, ⟨0, 9⟩], 0) := by decide
theorem t7d : tset [⟨1, 5⟩, ⟨2, 5⟩, ⟨0, 9⟩] (-1) 0 = ([⟨1, 5⟩, ⟨2, 5⟩, ⟨0, 9⟩], 1) := by decide
theorem t7e : (tdue [⟨1, 5⟩, ⟨2, 5⟩, ⟨0, 9⟩] 5).map Tm.id = [1, 2] := by decide
theorem t7f : trest [⟨1, 5⟩, ⟨2, 5⟩, ⟨0, 9⟩] 5 = [⟨0, 9⟩] := by decide
theorem t7g : thas [⟨0, 9⟩] 0 = true := by decide
theorem t7h : tout 0 [⟨0, 9⟩] = [] := by decide
theorem t7i : thas [] 0 = false := by decide
set_option maxHeartbeats 4000000 in
set_option maxRecDepth 100000 in
theorem awake_at (w : World) : Calls Try.prog 6 #[] w fun e w' => e = .returned (.bool true) ∧ Only [] w w' := by
  go_enter Try.func6, Try.ntmps6
  go_wp2_with fail
  refine (timNew_at _).mono ?_
  rintro e w1 ⟨t, F1, rfl, hT1, hO1, hF1⟩
  have HT1 := Lib.hid hT1
  have HO1 := Lib.hid hO1
  have HF1 := Lib.hid hF1
  clear hT1 hO1 hF1
  go_wp2_with fail
  refine (timSet_at HT1.out 1 5).mono ?_
  rintro e w2 ⟨rfl, F2, hT2, hO2, hF2⟩
  rw [t7a] at hT2 ⊢
  have HT2 := Lib.hid hT2
  have HF2 := Lib.hid (newer (w' := w2) hF2 HF1.out HO1.out.size)
  have HO2 := Lib.hid (HO1.out.call hO2 (fun b hb => .inr (HF1.out b hb)))
  clear hT2 hO2 hF2
  go_wp2_with fail
  refine (timSet_at HT2.out 2 5).mono ?_
  rintro e w3 ⟨rfl, F3, hT3, hO3, hF3⟩
  rw [t7b] at hT3 ⊢
  have HT3 := Lib.hid hT3
  have HF3 := Lib.hid (newer (w' := w3) hF3 HF2.out HO2.out.size)
  have HO3 := Lib.hid (HO2.out.call hO3 (fun b hb => .inr (HF2.out b hb)))
  clear hT3 hO3 hF3
  go_wp2_with fail
  refine (timSet_at HT3.out 0 9).mono ?_
  rintro e w4 ⟨rfl, F4, hT4, hO4, hF4⟩
  rw [t7c] at hT4 ⊢
  have HT4 := Lib.hid hT4
  have HF4 := Lib.hid (newer (w' := w4) hF4 HF3.out HO3.out.size)
  have HO4 := Lib.hid (HO3.out.call hO4 (fun b hb => .inr (HF3.out b hb)))
  clear hT4 hO4 hF4
  go_wp2_with fail
  refine (timSet_at HT4.out (-1) 0).mono ?_
  rintro e w5 ⟨rfl, F5, hT5, hO5, hF5⟩
  rw [t7d] at hT5 ⊢
  have HT5 := Lib.hid hT5
  have HF5 := Lib.hid (newer (w' := w5) hF5 HF4.out HO4.out.size)
  have HO5 := Lib.hid (HO4.out.call hO5 (fun b hb => .inr (HF4.out b hb)))
  clear hT5 hO5 hF5
  go_wp2_with fail
  refine (timNext_at HT5.out).mono ?_
  rintro e w6 ⟨rfl, hO6⟩
  have HT6 := Lib.hid (HT5.out.only hO6 (by simp))
  have HO6 := Lib.hid (HO5.out.trans hO6)
  clear hO6
  unfold nextV
  rw [decide_eq_true (show 0 < ([⟨1, 5⟩, ⟨2, 5⟩, ⟨0, 9⟩] : List Tm).length by decide)]
  go_wp2_with fail
  have hOA : Only [] w6 (w6.alloc (.cells #[.int .i64 1, .int .i64 5] 42)) := (Only.refl [] w6).alloc _
  have hzA : (w6.alloc (.cells #[.int .i64 1, .int .i64 5] 42)).heap[w6.heap.size]? = some (.cells #[.int .i64 1, .int .i64 5] 42 (0, 0)) := heap_alloc_at rfl
  have hnF : w6.heap.size ∉ F5 := fun hm => by have := HT6.out.lt _ hm; omega
  have HNF := Lib.hid hnF
  have HTA := Lib.hid (HT6.out.only hOA (by simp))
  have HOA := Lib.hid (HO6.out.trans hOA)
  have HZA := Lib.hid hzA
  clear hOA hzA hnF
  refine (timDue_at HTA.out 5).mono ?_
  rintro e w7 ⟨v, rfl, hown, hT7, hO7⟩
  rw [t7e] at hown
  rw [t7f] at hT7
  obtain ⟨a, cap, rfl, hints, hbase⟩ := ints_own hown
  have hz7 := hO7.keep HZA.out HNF.out
  have HZ7 := Lib.hid hz7
  have HI7 := Lib.hid hints
  have HBS := Lib.hid hbase
  have HT7 := Lib.hid hT7
  have HO7 := Lib.hid (HOA.out.call hO7 (fun b hb => .inr (HF5.out b hb)))
  have z0 := cell_at (o := 0) hz7 rfl
  have z1 := cell_at (o := 1) hz7 rfl
  clear hints hbase hT7 hO7 hown hz7
  go_wp2_with fail
  have hOB : Only [] w7 (w7.alloc (.cells #[.int .i64 1, .int .i64 2] 3)) := (Only.refl [] w7).alloc _
  have HJ : Hid (IntsAt (w7.alloc (.cells #[.int .i64 1, .int .i64 2] 3)) (some ⟨w7.heap.size, 0, none⟩) [1, 2]) := Lib.hid (fun i x hx => ⟨w7.heap.size, 0, rfl, by
    rw [Nat.zero_add, World.cell?_alloc_new]
    match i, hx with
    | 0, hx => simp at hx; subst hx; rfl
    | 1, hx => simp at hx; subst hx; rfl⟩)
  have HIB := Lib.hid (HI7.out.keep hOB)
  have HTB := Lib.hid (HT7.out.only hOB (by simp))
  have HOB := Lib.hid (HO7.out.trans hOB)
  clear hOB
  refine (ints_at (l := [1, 2]) (m := [1, 2]) HIB.out HJ.out (by decide)).mono ?_
  rintro e w8 ⟨rfl, hO8⟩
  have HT8 := Lib.hid (HTB.out.only hO8 (by simp))
  have HO8 := Lib.hid (HOB.out.trans hO8)
  clear hO8
  rw [decide_eq_true rfl]
  go_wp2_with fail
  refine (timLen_at HT8.out).mono ?_
  rintro e w9 ⟨rfl, rfl⟩
  go_wp2_with fail
  refine (timStop_at HT8.out 0).mono ?_
  rintro e w9 ⟨rfl, hT9, hO9⟩
  rw [t7h] at hT9
  rw [t7g]
  have HT9 := Lib.hid hT9
  have HO9 := Lib.hid (HO8.out.call hO9 (fun b hb => .inr (HF5.out b hb)))
  clear hT9 hO9
  go_wp2_with fail
  refine (timStop_at HT9.out 0).mono ?_
  rintro e w10 ⟨rfl, hT10, hO10⟩
  rw [t7i]
  have HO10 := Lib.hid (HO9.out.call hO10 (fun b hb => .inr (HF5.out b hb)))
  clear hT10 hO10
  go_wp2_with fail
  go_ret
  exact ⟨rfl, HO10.out⟩
end Go.Proofs.Ytimhccpfgpiecaa
