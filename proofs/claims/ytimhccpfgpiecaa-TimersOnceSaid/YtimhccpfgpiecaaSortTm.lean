/- slices.SortFunc over timers, by the closure of All. -/
import Derived.Test.YtimhccpfgpiecaaTimCmp
import Derived.Test.YtimhccpfgpiecaaTimM
import Derived.Test.YtimhccpfgpiecaaShelfSF
namespace Go.Proofs.Ytimhccpfgpiecaa
open Go.RowKit Go.Lib Go.Sort
set_option linter.unusedSimpArgs false
set_option linter.unusedVariables false
instance : Inhabited Tm := ⟨⟨0, 0⟩⟩
theorem tmCmp_lt (x y : Tm) : ltOf tmCmp x y = decide (x.lt y) := by
  unfold ltOf tmCmp
  by_cases h : x.lt y
  · rw [if_pos h]; simp [h]
  · rw [if_neg h]
    by_cases k : y.lt x
    · rw [if_pos k]; simp [h]
    · rw [if_neg k]; simp [h]
theorem tmCmp_swo : SWO (ltOf tmCmp) := by
  refine ⟨fun x => ?_, fun x y z h k => ?_, fun x y z h k => ?_⟩
  · rw [tmCmp_lt]; simp [Tm.lt_irrefl]
  · rw [tmCmp_lt] at *; simp at *; exact Tm.lt_trans h k
  · rw [tmCmp_lt] at *; simp at *; exact Tm.nlt_trans k h
theorem tm_total (x y : Tm) (h : ltOf tmCmp x y = false) (k : ltOf tmCmp y x = false) : x = y := by
  rw [tmCmp_lt, decide_eq_false_iff_not] at h k
  unfold Tm.lt at h k
  have e1 : x.at_ = y.at_ := by omega
  have e2 : x.id = y.id := by omega
  cases x; cases y
  simp only at e1 e2
  rw [e1, e2]
/-- Lists in order that hold the same are the same. -/
theorem sorted_same : ∀ {A B : List Tm}, A.Perm B → A.Pairwise Tm.lt → B.Pairwise Tm.lt → A = B
  | [], B, h, _, _ => h.nil_eq
  | a :: A, [], h, _, _ => by simpa using h.length_eq
  | a :: A, b :: B, h, ha, hb => by
    rw [List.pairwise_cons] at ha hb
    have e : a = b := by
      rcases List.mem_cons.1 (h.mem_iff.1 (List.mem_cons_self ..)) with e | h1
      · exact e
      · rcases List.mem_cons.1 (h.mem_iff.2 (List.mem_cons_self ..)) with e | h2
        · exact e.symm
        · exact (Tm.lt_asymm (hb.1 a h1) (ha.1 b h2)).elim
    subst e
    rw [sorted_same h.cons_inv ha.2 hb.2]
theorem merge_tm {L S : List Tm} (hp : L.Perm S) (hs : S.Pairwise Tm.lt) (hn : (S.map Tm.id).Nodup) : (L.mergeSort fun x y => !(ltOf tmCmp) y x) = S := by
  have h1 := List.mergeSort_perm L (fun x y => !(ltOf tmCmp) y x)
  have h2 := List.pairwise_mergeSort (le := fun x y => !(ltOf tmCmp) y x) (fun a b c hab hbc => by
    simp only [tmCmp_lt, Bool.not_eq_true', decide_eq_false_iff_not] at *
    exact Tm.nlt_trans hab hbc) (fun a b => by
    simp only [tmCmp_lt, Bool.or_eq_true, Bool.not_eq_true', decide_eq_false_iff_not]
    by_cases h : b.lt a
    · exact .inr (Tm.lt_asymm h)
    · exact .inl h) L
  refine sorted_same (h1.trans hp) ?_ hs
  have hn2 : ((L.mergeSort fun x y => !(ltOf tmCmp) y x).map Tm.id).Nodup := (((h1.trans hp).map Tm.id).nodup_iff).2 hn
  rw [List.Nodup, List.pairwise_map] at hn2
  refine (h2.and hn2).imp fun {a b} h => ?_
  have h3 := h.1
  simp only [tmCmp_lt, Bool.not_eq_true', decide_eq_false_iff_not] at h3
  have h4 := h.2
  unfold Tm.lt at *
  omega
theorem flatK_cells (L : List Tm) (j : Nat) (hj : j < L.length * 2) : (flatK Tm.cells 2 L.toArray)[j]! = ((L.flatMap Tm.cells)[j]?).getD default := by
  rw [get_flatK _ _ _ _ (by simpa using hj)]
  have hq : j / 2 < L.length := by omega
  obtain ⟨x, hx⟩ : ∃ x, L[j / 2]? = some x := ⟨_, List.getElem?_eq_getElem hq⟩
  obtain ⟨e1, e2⟩ := flat_cell hx
  have hx' : L.toArray[j / 2]! = x := by
    obtain ⟨_, rfl⟩ := List.getElem?_eq_some_iff.1 hx
    simp [hq]
  rw [hx']
  rcases (show j % 2 = 0 ∨ j % 2 = 1 by omega) with h | h
  · have : j = j / 2 * 2 := by omega
    rw [h]; conv => rhs; rw [this, e1]
    rfl
  · have : j = j / 2 * 2 + 1 := by omega
    rw [h]; conv => rhs; rw [this, e2]
    rfl
set_option maxHeartbeats 1000000 in
theorem sortTm_at {w : World} {g cap tv t p : Nat} {e : TypeId} {L S : List Tm} {base : Nat} (hown : w.ownsRow base e 2 (.slice (some ⟨g, 0, none⟩) L.length cap) L.length (L.flatMap Tm.cells))
    (hp : L.Perm S) (hs : S.Pairwise Tm.lt) (hn : (S.map Tm.id).Nodup) (hf : L.length ≤ 1048576)
    (h0 : w.cell? ⟨tv, 0, none⟩ = some (.pointer (some ⟨t, 0, none⟩))) (h1 : w.cell? ⟨t, 0, none⟩ = some (.pointer (some ⟨p, 0, none⟩))) (h2 : w.cell? ⟨p, 2, none⟩ = some (.iface 53 (.agg #[]))) (n0 : tv ≠ g) (n1 : t ≠ g) (n2 : p ≠ g) :
    Calls Try.prog 24 #[.slice (some ⟨g, 0, none⟩) L.length cap, .func (.func 25) #[] #[.pointer (some ⟨tv, 0, none⟩)]] w fun e' w' => e' = .returned (.tuple #[]) ∧ w'.ownsRow base e 2 (.slice (some ⟨g, 0, none⟩) S.length cap) S.length (S.flatMap Tm.cells) ∧ Only [g] w w' := by
  have hgl : g < w.heap.size := (hown.lt g rfl).2
  obtain ⟨cur, hcap, hmax, hheap, hcs, htake⟩ : ∃ cur, L.length ≤ cap ∧ cap ≤ maxLen ∧ w.heap[g]? = some (.cells cur e (0, 0)) ∧ cur.size = cap * 2 ∧ cur.toList.take (L.length * 2) = L.flatMap Tm.cells := by
    rcases hown.2 with ⟨e', _⟩ | ⟨g', cap', cur, e', _, hr, a1, a2, a3, a4⟩
    · simp at e'
    · simp only [Value.slice.injEq, Option.some.injEq, Addr.mk.injEq, and_true, true_and] at e'
      obtain ⟨rfl, rfl⟩ := e'
      exact ⟨cur, a1, a2, hr, a3, a4⟩
  have hbase : base ≤ g := (hown.lt g rfl).1
  have hH : HoldsK Tm.cells 2 w g 0 L.toArray := by
    intro j hj
    rw [size_flatK] at hj
    simp at hj
    have hc := hown.cellAt j (by omega)
    have hlt : j < (L.flatMap Tm.cells).length := by rw [tmflat_len]; exact hj
    rw [flatK_cells L j hj, Nat.zero_add, hc, List.getElem?_eq_getElem hlt]
    exact ⟨rfl, hown.frozenAt j⟩
  refine (AnyQ.slices_SortFunc_total Try.laysSF 2 (fun w => by kernel_rfl) (fun w => by kernel_rfl) Tm.cells (fun x => rfl) (fun x v hv => ?_) tmCmp tmCmp_swo 25 #[.pointer (some ⟨tv, 0, none⟩)] g 0 cap L.toArray w (fun args w => ?_) ?_ hH hgl (by simp; omega) tm_total).mono ?_
  · simp [Tm.cells] at hv
    rcases hv with rfl | rfl <;> rfl
  · kernel_rfl
  · intro m os dk hds x y
    have k0 := cell?_sortWorldK_other Tm.cells 2 w g 0 m dk os ⟨tv, 0, none⟩ n0 (World.block_lt_of_cell? _ _ h0)
    have k1 := cell?_sortWorldK_other Tm.cells 2 w g 0 m dk os ⟨t, 0, none⟩ n1 (World.block_lt_of_cell? _ _ h1)
    have k2 := cell?_sortWorldK_other Tm.cells 2 w g 0 m dk os ⟨p, 2, none⟩ n2 (World.block_lt_of_cell? _ _ h2)
    exact cmp_at (k0.trans h0) (k1.trans h1) (k2.trans h2) x y
  · rintro e' w' ⟨rfl, m, os, rfl⟩
    have hm := merge_tm hp hs hn
    have hm' : (L.toArray.toList.mergeSort fun x y => !(ltOf tmCmp) y x) = S := hm
    rw [hm']
    have hl := hp.length_eq
    have hblk : (sortWorldK Tm.cells 2 w g 0 m S.toArray os).heap[g]? = some (.cells (putCells id 0 (flatK Tm.cells 2 S.toArray) cur) e (0, 0)) := by
      unfold sortWorldK putRowK
      rw [heap_grow_old _ _ (by simpa using hgl)]
      simp [putRow, mapBlock, Sort.ahead, Array.getElem?_modify, hheap, onCells]
    have hoth : ∀ k, k < w.heap.size → k ≠ g → (sortWorldK Tm.cells 2 w g 0 m S.toArray os).heap[k]? = w.heap[k]? := by
      intro k hk hne
      unfold sortWorldK putRowK
      rw [heap_grow_old _ _ (by simpa using hk)]
      simp [putRow, mapBlock, Sort.ahead, Array.getElem?_modify, Ne.symm hne]
    refine ⟨rfl, ⟨tmflat_len S, .inr ⟨g, cap, _, rfl, hbase, hblk, by omega, hmax, ?_, ?_⟩⟩, ⟨rfl, rfl, rfl, ?_, fun k hk hne => hoth k hk (by simpa using hne)⟩⟩
    · simp [putCells, hcs]
    · apply List.ext_getElem?
      intro j
      by_cases hj : j < S.length * 2
      · obtain ⟨u, hu⟩ : ∃ u, (S.flatMap Tm.cells)[j]? = some u := ⟨_, List.getElem?_eq_getElem (by rw [tmflat_len]; exact hj)⟩
        have hf := flatK_cells S j hj
        rw [hu, Option.getD_some] at hf
        rw [List.getElem?_take_of_lt hj, Array.getElem?_toList, hu]
        have hjc : j < cur.size := by omega
        simp [putCells, hj, hjc]
        rw [← hf]
        exact (getElem!_pos (flatK Tm.cells 2 S.toArray) j (by simpa using hj)).symm
      · rw [List.getElem?_take_eq_none (by omega), List.getElem?_eq_none (by rw [tmflat_len]; omega)]
    · unfold sortWorldK putRowK
      simp [grow, putRow, mapBlock, Sort.ahead]
end Go.Proofs.Ytimhccpfgpiecaa
