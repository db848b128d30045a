/- Timers in memory: New, Len, Next, Set, Stop. -/
import Derived.Test.YtllfehahjkbhiaaTimM
import Derived.Test.YtllfehahjkbhiaaHeapFns2
import Derived.Laws.ResultCell
import Derived.Laws.Rows
namespace Go.Proofs.Ytllfehahjkbhiaa
open Go.RowKit Go.Lib
set_option linter.unusedSimpArgs false
set_option linter.unusedVariables false
/-- Timers: a pile that is a heap of those that are set. F: the blocks that are theirs. -/
structure TimAt (w : World) (t : Nat) (F : List Nat) (S : List Tm) : Prop where
  ok : TmOk S
  obj : ∃ p bm v L, w.heap[t]? = some (.cells #[.pointer (some ⟨p, 0, none⟩)] 89 (0, 0)) ∧ PileAt w p bm v L ∧ Hp L.length L ∧ L.Perm S ∧ F = t :: p :: bm :: v.ownBlock.toList
theorem TimAt.lt {w : World} {t : Nat} {F : List Nat} {S : List Tm} (h : TimAt w t F S) : ∀ b ∈ F, b < w.heap.size := by
  obtain ⟨p, bm, v, L, ht, hP, _, _, rfl⟩ := h.obj
  intro b hb
  simp at hb
  obtain ⟨es, ck, l, hbm, _, _⟩ := hP.hm
  rcases hb with rfl | rfl | rfl | hb
  · exact lt_of_heap ht
  · exact lt_of_heap hP.hp
  · exact lt_of_heap hbm
  · exact (hP.row.lt b hb).2
theorem TimAt.only {w w' : World} {t : Nat} {F : List Nat} {S : List Tm} (h : TimAt w t F S) {G : List Nat} (hO : Only G w w') (hG : ∀ b ∈ F, b ∉ G) : TimAt w' t F S := by
  obtain ⟨p, bm, v, L, ht, hP, hh, hp, rfl⟩ := h.obj
  exact ⟨h.ok, p, bm, v, L, hO.keep ht (hG t (by simp)), hP.only hO (hG p (by simp)) (hG bm (by simp)) (fun g hg => hG g (by simp [hg])), hh, hp, rfl⟩
theorem timLen_nil (w : World) : Calls Try.prog 43 #[.pointer none] w fun e w' => e = .returned (.int .i64 0) ∧ w = w' := by
  go_enter Try.func43, Try.ntmps43
  go_wp2_with fail
  go_ret
  exact ⟨rfl, rfl⟩
theorem timLen_at {w : World} {t : Nat} {F : List Nat} {S : List Tm} (h : TimAt w t F S) : Calls Try.prog 43 #[.pointer (some ⟨t, 0, none⟩)] w fun e w' => e = .returned (.int .i64 S.length) ∧ w = w' := by
  obtain ⟨p, bm, v, L, ht, hP, hh, hp, rfl⟩ := h.obj
  have hv : ∃ a cap, v = .slice a L.length cap := by
    rcases hP.row.2 with ⟨rfl, h0⟩ | ⟨g, cap, cur, hv, _, hb, h1, h2, h3, h4⟩
    · exact ⟨none, 0, by rw [h0]⟩
    · exact ⟨_, _, hv⟩
  obtain ⟨a, cap, rfl⟩ := hv
  have c0 := cell_at (o := 0) ht rfl
  have p0 := hP.c0
  have hl := hp.length_eq
  rw [hl] at p0
  clear h ht hP hl
  go_enter Try.func43, Try.ntmps43
  go_wp2_with fail
  go_ret
  exact ⟨rfl, rfl⟩
theorem timNew_at (w : World) : Calls Try.prog 25 #[] w fun e w' => ∃ t F, e = .returned (.pointer (some ⟨t, 0, none⟩)) ∧ TimAt w' t F [] ∧ Only [] w w' ∧ ∀ b ∈ F, w.heap.size ≤ b := by
  have hmm := @run_makeMap Try.prog
  go_enter Try.func25, Try.ntmps25
  go_wp2_with fail
  go_ret
  refine ⟨w.heap.size + 1 + 1, [w.heap.size + 1 + 1, w.heap.size + 1, w.heap.size], rfl, ⟨TmOk.nil, w.heap.size + 1, w.heap.size, .slice none 0 0, [], ?_, ⟨?_, World.ownsRow_nil .., ⟨#[], 0, [], ?_, MapOf.nil 0, ⟨by simp, by simp [mget]⟩⟩, by simp⟩, ?_, .refl _, rfl⟩, ?_, ?_⟩
  · exact heap_alloc_at (by simp)
  · rw [heap_alloc_ne (by simp)]; exact heap_alloc_at (by simp)
  · rw [heap_alloc_ne (by simp; omega), heap_alloc_ne (by simp)]; exact heap_alloc_at rfl
  · intro c x y hc; simp at hc
  · exact (((Only.refl [] w).alloc _).alloc _).alloc _
  · intro b hb; simp at hb; omega
/-- Two results: a struct that stands in a block, and a word. -/
theorem ret_cell_tmp {P : Program} {fn : Func} {p u : Tmp} {ty t : TypeId} {fs : Array Field} {g : Nat} {cs : Array Value} {fr : Nat × Nat} {w : World} (h : fn.results = #[.cell p ty, .tmp u]) (tmps : Array Value) (hp : tmps.getD p undef = .pointer (some ⟨g, 0, none⟩))
    (hg : w.heap[g]? = some (.cells cs t fr)) (hu : P.underlying ty = some (.struct fs)) (hi : (P.info? ty).map (·.size) = some cs.size) : (results fn tmps).run P w = .ok (.tuple #[.agg cs, tmps.getD u undef]) w := by
  rw [results_cell_tmp h, hp]
  have h1 := run_loadVar_row (P := P) w g t ty cs fr _ hg hu rfl hi
  simp [asAddr, h1, Result.andThen]
theorem timNext_nil (w : World) : Calls Try.prog 36 #[.pointer none] w fun e w' => e = .returned (.tuple #[.agg #[.int .i64 0, .int .i64 0], .bool false]) ∧ Only [] w w' := by
  go_enter Try.func36, Try.ntmps36
  go_wp2_with fail
  refine (timLen_nil _).mono ?_
  rintro e w1 ⟨rfl, rfl⟩
  go_wp2_with fail
  (try simp only [Exit.inBlock, Exit.then])
  refine bodyPost_ret (ret_cell_tmp rfl _ rfl (heap_alloc_at rfl) Try.underlying92 (by kernel_rfl)) rfl ⟨rfl, (Only.refl [] w).alloc _⟩
/-- The first of some timers, or none. -/
def nextV : List Tm → Value
  | [] => .agg #[.int .i64 0, .int .i64 0]
  | x :: _ => .agg #[.int .i64 x.id, .int .i64 x.at_]
theorem timNext_at {w : World} {t : Nat} {F : List Nat} {S : List Tm} (h : TimAt w t F S) : Calls Try.prog 36 #[.pointer (some ⟨t, 0, none⟩)] w fun e w' => e = .returned (.tuple #[nextV S, .bool (decide (0 < S.length))]) ∧ Only [] w w' := by
  have hOA : Only [] w (w.alloc (.cells #[.int .i64 0, .int .i64 0] 92)) := (Only.refl [] w).alloc _
  have h1 := h.only hOA (by simp)
  generalize hW : w.alloc (.cells #[.int .i64 0, .int .i64 0] 92) = W at *
  have hz : W.heap[w.heap.size]? = some (.cells #[.int .i64 0, .int .i64 0] 92 (0, 0)) := by rw [← hW]; exact heap_alloc_at rfl
  have z0 := cell_at (o := 0) hz rfl
  have z1 := cell_at (o := 1) hz rfl
  have HW := Lib.hid hW
  have HO := Lib.hid hOA
  have H1 := Lib.hid h1
  have zf0 : W.frozen? ⟨w.heap.size, 0, none⟩ = false := frozen_at hz
  have zf1 : W.frozen? ⟨w.heap.size, 1, none⟩ = false := frozen_at hz
  have HZ := Lib.hid hz
  clear hz h hOA
  obtain ⟨p, bm, v, L, ht, hP, hh, hp, rfl⟩ := h1.obj
  have hfirst := first_eq hp hh h1.ok.sorted
  have c0 := cell_at (o := 0) ht rfl
  have p0 := hP.c0
  clear h1
  cases S with
  | nil =>
    clear ht hP hh hp hfirst
    go_enter Try.func36, Try.ntmps36
    go_wp2_with fail
    refine (timLen_at H1.out).mono ?_
    rintro e w1 ⟨rfl, rfl⟩
    go_wp2_with fail
    (try simp only [Exit.inBlock, Exit.then])
    refine bodyPost_ret (ret_cell_tmp rfl _ rfl (heap_store (heap_store HZ.out)) Try.underlying92 (by kernel_rfl)) rfl ⟨rfl, (HO.out.setCell (.inr (Nat.le_refl _)) _).setCell (.inr (Nat.le_refl _)) _⟩
  | cons x r =>
    obtain ⟨g, cap, rfl, hcap, x1, x2, _, _⟩ := hP.elem (hfirst.trans rfl)
    have hl : (0 : Int) < L.length := by have := hp.length_eq; simp at this; omega
    have hb1 : ((((x :: r).length : Nat) : Int) == 0) = false := by simp; omega
    have hb2 : (((x :: r).length : Nat) == 0) = false := by simp
    have hb3 : ((r.length : Int) + 1 == 0) = false := by simp; omega
    clear ht hP hh hp hfirst
    go_enter Try.func36, Try.ntmps36
    go_wp2_with fail
    refine (timLen_at H1.out).mono ?_
    rintro e w1 ⟨rfl, rfl⟩
    go_wp2_with fail
    (try simp only [Exit.inBlock, Exit.then])
    refine bodyPost_ret (ret_cell_tmp rfl _ rfl (heap_store (heap_store HZ.out)) Try.underlying92 (by kernel_rfl)) rfl ⟨?_, (HO.out.setCell (.inr (Nat.le_refl _)) _).setCell (.inr (Nat.le_refl _)) _⟩
    rw [decide_eq_true (by simp)]
    rfl
end Go.Proofs.Ytllfehahjkbhiaa
