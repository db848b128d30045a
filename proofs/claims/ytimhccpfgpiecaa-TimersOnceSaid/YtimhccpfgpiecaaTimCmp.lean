/- The order that All sorts by, as the closure tells it. -/
import Derived.Test.YtimhccpfgpiecaaTim
import Derived.Sort.Grow
namespace Go.Proofs.Ytimhccpfgpiecaa
open Go.RowKit Go.Lib
set_option linter.unusedSimpArgs false
set_option linter.unusedVariables false
/-- Nothing but draws and new blocks. -/
def Grew (w w' : World) : Prop := ∃ q os, w' = Sort.grow (w.drewN q) os
theorem Grew.refl (w : World) : Grew w w := ⟨0, #[], by rw [Sort.grow_empty]; rfl⟩
theorem Grew.drew {a w : World} (h : Grew a w) : Grew a w.drew := by
  obtain ⟨q, os, rfl⟩ := h
  exact ⟨q + 1, os, rfl⟩
theorem Grew.alloc {a w : World} (h : Grew a w) (o : Obj) : Grew a (w.alloc o) := by
  obtain ⟨q, os, rfl⟩ := h
  exact ⟨q, os ++ #[o], by rw [Sort.alloc_eq_grow, Sort.grow_grow]⟩
theorem Grew.only {a w : World} (h : Grew a w) : Only [] a w := by
  obtain ⟨q, os, rfl⟩ := h
  refine ⟨rfl, rfl, rfl, ?_, fun k hk _ => ?_⟩
  · simp [Sort.grow]
  · simp [Sort.grow, Array.getElem?_append_left, hk]
theorem Grew.trans {a b c : World} (h : Grew a b) (k : Grew b c) : Grew a c := by
  obtain ⟨q, os, rfl⟩ := h
  obtain ⟨q', os', rfl⟩ := k
  refine ⟨q + q', os ++ os', ?_⟩
  rw [← Sort.grow_grow]
  simp [Sort.grow, World.drewN, Nat.add_assoc]
theorem aheadGrew_at (w : World) (a b : Tm) : Calls Try.prog 67 #[.agg #[], .agg #[.int .i64 a.id, .int .i64 a.at_], .agg #[.int .i64 b.id, .int .i64 b.at_]] w fun e w' => e = .returned (.bool (decide (a.lt b))) ∧ Grew w w' := by
  have hO : Grew w (((w.alloc (.cells #[] 53)).alloc (.cells #[.int .i64 a.id, .int .i64 a.at_] 42)).alloc (.cells #[.int .i64 b.id, .int .i64 b.at_] 42)) := (((Grew.refl w).alloc _).alloc _).alloc _
  by_cases h1 : a.at_ < b.at_
  · have e1 : decide (a.at_ < b.at_) = true := decide_eq_true h1
    go_enter Try.func67, Try.ntmps67
    go_wp2_with fail
    go_ret
    exact ⟨ret_b (by rw [decide_eq_true]; exact .inl h1), hO⟩
  · have e1 : decide (a.at_ < b.at_) = false := decide_eq_false h1
    by_cases h2 : a.at_ = b.at_
    · have e2 : (a.at_ == b.at_) = true := by simp [h2]
      go_enter Try.func67, Try.ntmps67
      go_wp2_with fail
      go_ret
      exact ⟨ret_b (by congr 1; unfold Tm.lt; simp [h1, h2]), by rw [h2] at hO; exact hO⟩
    · have e2 : (a.at_ == b.at_) = false := by simp [h2]
      go_enter Try.func67, Try.ntmps67
      go_wp2_with fail
      go_ret
      exact ⟨ret_b (by rw [decide_eq_false]; unfold Tm.lt; omega), hO⟩
/-- What the closure answers. -/
def tmCmp (x y : Tm) : Int := if x.lt y then -1 else if y.lt x then 1 else 0
set_option maxRecDepth 100000 in
set_option maxHeartbeats 2000000 in
theorem cmp_at {w : World} {tv t p : Nat} (h0 : w.cell? ⟨tv, 0, none⟩ = some (.pointer (some ⟨t, 0, none⟩))) (h1 : w.cell? ⟨t, 0, none⟩ = some (.pointer (some ⟨p, 0, none⟩))) (h2 : w.cell? ⟨p, 2, none⟩ = some (.iface 53 (.agg #[]))) (x y : Tm) :
    Calls Try.prog 25 #[.agg #[.int .i64 x.id, .int .i64 x.at_], .agg #[.int .i64 y.id, .int .i64 y.at_], .pointer (some ⟨tv, 0, none⟩)] w fun e w' => e = .returned (.int .i64 (tmCmp x y)) ∧ Grew w w' := by
  have hme := method_ahead
  have hG : Grew w ((w.alloc (.cells #[.int .i64 x.id, .int .i64 x.at_] 42)).alloc (.cells #[.int .i64 y.id, .int .i64 y.at_] 42)) := ((Grew.refl w).alloc _).alloc _
  have hx : ((w.alloc (.cells #[.int .i64 x.id, .int .i64 x.at_] 42)).alloc (.cells #[.int .i64 y.id, .int .i64 y.at_] 42)).heap[w.heap.size]? = some (.cells #[.int .i64 x.id, .int .i64 x.at_] 42 (0, 0)) := by
    rw [heap_alloc_ne (by simp)]; exact heap_alloc_at rfl
  have hy : ((w.alloc (.cells #[.int .i64 x.id, .int .i64 x.at_] 42)).alloc (.cells #[.int .i64 y.id, .int .i64 y.at_] 42)).heap[w.heap.size + 1]? = some (.cells #[.int .i64 y.id, .int .i64 y.at_] 42 (0, 0)) := heap_alloc_at (by simp)
  have g0 := hG.only.cell h0 (by simp)
  have g1 := hG.only.cell h1 (by simp)
  have g2 := hG.only.cell h2 (by simp)
  have x0 := cell_at (o := 0) hx rfl
  have x1 := cell_at (o := 1) hx rfl
  have y0 := cell_at (o := 0) hy rfl
  have y1 := cell_at (o := 1) hy rfl
  have HG := Lib.hid hG
  clear hx hy hG
  go_enter Try.func25, Try.ntmps25
  go_wp2_with fail
  generalize hW : (w.alloc (.cells #[.int .i64 x.id, .int .i64 x.at_] 42)).alloc (.cells #[.int .i64 y.id, .int .i64 y.at_] 42) = W at *
  have a0 : W.cell? ⟨tv, 0, none⟩ = some (.pointer (some ⟨t, 0, none⟩)) := g0
  have a1 : W.cell? ⟨t, 0, none⟩ = some (.pointer (some ⟨p, 0, none⟩)) := g1
  have a2 : W.cell? ⟨p, 2, none⟩ = some (.iface 53 (.agg #[])) := g2
  have a3 : W.cell? ⟨w.heap.size, 0, none⟩ = some (.int .i64 x.id) := x0
  have a4 : W.cell? ⟨w.heap.size, 1, none⟩ = some (.int .i64 x.at_) := x1
  have a5 : W.cell? ⟨w.heap.size + 1, 0, none⟩ = some (.int .i64 y.id) := y0
  have a6 : W.cell? ⟨w.heap.size + 1, 1, none⟩ = some (.int .i64 y.at_) := y1
  clear g0 g1 g2 x0 x1 y0 y1 hW h0 h1 h2
  go_region_held3 (fun w' => w'.cell? ⟨tv, 0, none⟩ = some (.pointer (some ⟨t, 0, none⟩)) ∧ w'.cell? ⟨t, 0, none⟩ = some (.pointer (some ⟨p, 0, none⟩)) ∧ w'.cell? ⟨p, 2, none⟩ = some (.iface 53 (.agg #[])) ∧
      w'.cell? ⟨w.heap.size, 0, none⟩ = some (.int .i64 x.id) ∧ w'.cell? ⟨w.heap.size, 1, none⟩ = some (.int .i64 x.at_) ∧ w'.cell? ⟨w.heap.size + 1, 0, none⟩ = some (.int .i64 y.id) ∧ w'.cell? ⟨w.heap.size + 1, 1, none⟩ = some (.int .i64 y.at_))
    (first | exact ⟨a0, a1, a2, a3, a4, a5, a6⟩ | exact ⟨b0, b1, b2, b3, b4, b5, b6⟩)
    ((first | (go_at_call 67; refine (aheadGrew_at _ x y).mono ?_; rintro e w' ⟨rfl, hg⟩; have HG1 := Lib.hid hg; (have b0 := hg.only.cell (a := W.drew) a0 (by simp)); (have b1 := hg.only.cell (a := W.drew) a1 (by simp)); (have b2 := hg.only.cell (a := W.drew) a2 (by simp)); (have b3 := hg.only.cell (a := W.drew) a3 (by simp)); (have b4 := hg.only.cell (a := W.drew) a4 (by simp)); (have b5 := hg.only.cell (a := W.drew) a5 (by simp)); (have b6 := hg.only.cell (a := W.drew) a6 (by simp)); clear hg)))
  by_cases h1 : x.lt y
  · have e1 : decide (x.lt y) = true := decide_eq_true h1
    rw [e1]
    go_wp2_with fail
    go_ret
    refine ⟨ret_i ?_, (HG.out.drew).trans HG1.out⟩
    unfold tmCmp; rw [if_pos h1]
  · have e1 : decide (x.lt y) = false := decide_eq_false h1
    rw [e1]
    go_wp2_with fail
    go_region_held3 (fun w' => w'.cell? ⟨tv, 0, none⟩ = some (.pointer (some ⟨t, 0, none⟩)) ∧ w'.cell? ⟨t, 0, none⟩ = some (.pointer (some ⟨p, 0, none⟩)) ∧ w'.cell? ⟨p, 2, none⟩ = some (.iface 53 (.agg #[])) ∧
      w'.cell? ⟨w.heap.size, 0, none⟩ = some (.int .i64 x.id) ∧ w'.cell? ⟨w.heap.size, 1, none⟩ = some (.int .i64 x.at_) ∧ w'.cell? ⟨w.heap.size + 1, 0, none⟩ = some (.int .i64 y.id) ∧ w'.cell? ⟨w.heap.size + 1, 1, none⟩ = some (.int .i64 y.at_))
      (first | exact ⟨b0, b1, b2, b3, b4, b5, b6⟩ | exact ⟨c0, c1, c2, c3, c4, c5, c6⟩)
      ((first | (go_at_call 67; refine (aheadGrew_at _ y x).mono ?_; rintro e w2 ⟨rfl, hg⟩; have HG2 := Lib.hid hg; (have c0 := hg.only.cell (a := w'.drew) b0 (by simp)); (have c1 := hg.only.cell (a := w'.drew) b1 (by simp)); (have c2 := hg.only.cell (a := w'.drew) b2 (by simp)); (have c3 := hg.only.cell (a := w'.drew) b3 (by simp)); (have c4 := hg.only.cell (a := w'.drew) b4 (by simp)); (have c5 := hg.only.cell (a := w'.drew) b5 (by simp)); (have c6 := hg.only.cell (a := w'.drew) b6 (by simp)); clear hg)))
    by_cases h2 : y.lt x
    · have e2 : decide (y.lt x) = true := decide_eq_true h2
      rw [e2]
      go_wp2_with fail
      go_ret
      refine ⟨ret_i ?_, (((HG.out.drew).trans HG1.out).drew).trans HG2.out⟩
      unfold tmCmp; rw [if_neg h1, if_pos h2]
    · have e2 : decide (y.lt x) = false := decide_eq_false h2
      rw [e2]
      go_wp2_with fail
      go_ret
      refine ⟨ret_i ?_, (((HG.out.drew).trans HG1.out).drew).trans HG2.out⟩
      unfold tmCmp; rw [if_neg h1, if_neg h2]
end Go.Proofs.Ytimhccpfgpiecaa
