/- A pile of timers in memory: the heap that its methods turn. -/
import Derived.Test.YtllfehahjkbhiaaHeapM
import Derived.Test.YtllfehahjkbhiaaMapEnt
import Derived.Test.YtllfehahjkbhiaaProg
import Derived.WalkKit
import Derived.WalkSpells
import Derived.KernelRfl
import Derived.Deep.RegionWith
import Derived.Deep.RegionHeld3
import Derived.BigGuard
import Derived.Deep.DeepCutAuto
import Derived.Deep.CutBlock
import Derived.Laws.AppendOwn
namespace Go.Proofs.Ytllfehahjkbhiaa
open Go.RowKit Go.Lib
set_option linter.unusedSimpArgs false
set_option linter.unusedVariables false
def Tm.cells (t : Tm) : List Value := [.int .i64 t.id, .int .i64 t.at_]
/-- Where each number stands. -/
structure IdxOk (L : List Tm) (l : List (Int × Value)) : Prop where
  at_ : ∀ (k : Nat) (x : Tm), L[k]? = some x → mget x.id l = some (.int .i64 k)
  only : ∀ (n : Int) (v : Value), mget n l = some v → ∃ (k : Nat) (x : Tm), L[k]? = some x ∧ x.id = n ∧ v = .int .i64 k
/-- A pile: its blocks are p, bm (where each number stands) and the row's own. -/
structure PileAt (w : World) (p bm : Nat) (v : Value) (L : List Tm) : Prop where
  hp : w.heap[p]? = some (.cells #[v, .map (some bm), .iface 82 (.agg #[])] 87 (0, 0))
  row : w.ownsRow 0 92 2 v L.length (L.flatMap Tm.cells)
  hm : ∃ es ck l, w.heap[bm]? = some (.map es ck) ∧ MapOf es ck l ∧ IdxOk L l
  few : L.length ≤ 1048576
theorem flat_cell {L : List Tm} {k : Nat} {x : Tm} (h : L[k]? = some x) : (L.flatMap Tm.cells)[k * 2]? = some (.int .i64 x.id) ∧ (L.flatMap Tm.cells)[k * 2 + 1]? = some (.int .i64 x.at_) := by
  induction L generalizing k with
  | nil => simp at h
  | cons y L ih =>
    cases k with
    | zero => simp at h; subst h; exact ⟨rfl, rfl⟩
    | succ k =>
      have := ih (k := k) (by simpa using h)
      have e1 : (k + 1) * 2 = k * 2 + 1 + 1 := by omega
      rw [e1]
      simpa [List.flatMap_cons, Tm.cells] using this
/-- An element's cells. -/
theorem PileAt.elem {w : World} {p bm : Nat} {v : Value} {L : List Tm} (h : PileAt w p bm v L) {k : Nat} {x : Tm} (hx : L[k]? = some x) :
    ∃ g cap, v = .slice (some ⟨g, 0, none⟩) L.length cap ∧ L.length ≤ cap ∧ w.cell? ⟨g, k * 2, none⟩ = some (.int .i64 x.id) ∧ w.cell? ⟨g, k * 2 + 1, none⟩ = some (.int .i64 x.at_) ∧ w.frozen? ⟨g, k * 2, none⟩ = false ∧ w.frozen? ⟨g, k * 2 + 1, none⟩ = false := by
  rcases h.row.2 with ⟨_, h0⟩ | ⟨g, cap, cur, hv, _, hb, h1, h2, h3, h4⟩
  · have := (List.getElem?_eq_some_iff.1 hx).1; omega
  · obtain ⟨e1, e2⟩ := flat_cell hx
    have hk := (List.getElem?_eq_some_iff.1 hx).1
    rw [← h4, List.getElem?_take_of_lt (by omega), Array.getElem?_toList] at e1 e2
    exact ⟨g, cap, hv, h1, cell_at hb e1, cell_at hb e2, frozen_at hb, frozen_at hb⟩
theorem PileAt.c0 {w : World} {p bm : Nat} {v : Value} {L : List Tm} (h : PileAt w p bm v L) : w.cell? ⟨p, 0, none⟩ = some v := cell_at h.hp rfl
theorem PileAt.c1 {w : World} {p bm : Nat} {v : Value} {L : List Tm} (h : PileAt w p bm v L) : w.cell? ⟨p, 1, none⟩ = some (.map (some bm)) := cell_at h.hp rfl
theorem PileAt.c2 {w : World} {p bm : Nat} {v : Value} {L : List Tm} (h : PileAt w p bm v L) : w.cell? ⟨p, 2, none⟩ = some (.iface 82 (.agg #[])) := cell_at h.hp rfl
theorem ahead_at (w : World) (a b : Tm) : Calls Try.prog 83 #[.agg #[], .agg #[.int .i64 a.id, .int .i64 a.at_], .agg #[.int .i64 b.id, .int .i64 b.at_]] w fun e w' => e = .returned (.bool (decide (a.lt b))) ∧ Only [] w w' := by
  have hO : Only [] w (((w.alloc (.cells #[] 82)).alloc (.cells #[.int .i64 a.id, .int .i64 a.at_] 92)).alloc (.cells #[.int .i64 b.id, .int .i64 b.at_] 92)) := (((Only.refl [] w).alloc _).alloc _).alloc _
  by_cases h1 : a.at_ < b.at_
  · have e1 : decide (a.at_ < b.at_) = true := decide_eq_true h1
    go_enter Try.func83, Try.ntmps83
    go_wp2_with fail
    go_ret
    exact ⟨ret_b (by rw [decide_eq_true]; exact .inl h1), hO⟩
  · have e1 : decide (a.at_ < b.at_) = false := decide_eq_false h1
    by_cases h2 : a.at_ = b.at_
    · have e2 : (a.at_ == b.at_) = true := by simp [h2]
      go_enter Try.func83, Try.ntmps83
      go_wp2_with fail
      go_ret
      exact ⟨ret_b (by congr 1; unfold Tm.lt; simp [h1, h2]), by rw [h2] at hO; exact hO⟩
    · have e2 : (a.at_ == b.at_) = false := by simp [h2]
      go_enter Try.func83, Try.ntmps83
      go_wp2_with fail
      go_ret
      exact ⟨ret_b (by rw [decide_eq_false]; unfold Tm.lt; omega), hO⟩
theorem pileLen_at {w : World} {p bm : Nat} {v : Value} {L : List Tm} (h : PileAt w p bm v L) : Calls Try.prog 78 #[.pointer (some ⟨p, 0, none⟩)] w fun e w' => e = .returned (.int .i64 L.length) ∧ w = w' := by
  have c0 := h.c0
  have hv : ∃ a cap, v = .slice a L.length cap := by
    rcases h.row.2 with ⟨rfl, h0⟩ | ⟨g, cap, cur, hv, _, hb, h1, h2, h3, h4⟩
    · exact ⟨none, 0, by rw [h0]⟩
    · exact ⟨_, _, hv⟩
  obtain ⟨a, cap, rfl⟩ := hv
  clear h
  go_enter Try.func78, Try.ntmps78
  go_wp2_with fail
  go_ret
  exact ⟨rfl, rfl⟩
theorem method_ahead (w : World) : (method 246 82 (.agg #[]) "hurdle/timers.ahead").run Try.prog w = .ok (83, .agg #[]) w := by kernel_rfl
set_option maxRecDepth 100000 in
theorem pileLess_at {w : World} {p bm : Nat} {v : Value} {L : List Tm} (h : PileAt w p bm v L) {i j : Nat} {x y : Tm} (hx : L[i]? = some x) (hy : L[j]? = some y) :
    Calls Try.prog 79 #[.pointer (some ⟨p, 0, none⟩), .int .i64 i, .int .i64 j] w fun e w' => e = .returned (.bool (decide (x.lt y))) ∧ Only [] w w' := by
  have c0 := h.c0
  have c2 := h.c2
  obtain ⟨g, cap, rfl, hcap, x1, x2, _, _⟩ := h.elem hx
  obtain ⟨g', cap', e, _, y1, y2, _, _⟩ := h.elem hy
  cases e
  have hi : (i : Int) < L.length := by have := (List.getElem?_eq_some_iff.1 hx).1; omega
  have hj : (j : Int) < L.length := by have := (List.getElem?_eq_some_iff.1 hy).1; omega
  clear h hx hy
  have hme := method_ahead
  go_enter Try.func79, Try.ntmps79
  go_wp2_with fail
  go_region_held3 (fun w' => Only [] w w' ∧ w'.cell? ⟨p, 0, none⟩ = some (.slice (some ⟨g, 0, none⟩) L.length cap) ∧ w'.cell? ⟨p, 2, none⟩ = some (.iface 82 (.agg #[])) ∧
      w'.cell? ⟨g, i * 2, none⟩ = some (.int .i64 x.id) ∧ w'.cell? ⟨g, i * 2 + 1, none⟩ = some (.int .i64 x.at_) ∧ w'.cell? ⟨g, j * 2, none⟩ = some (.int .i64 y.id) ∧ w'.cell? ⟨g, j * 2 + 1, none⟩ = some (.int .i64 y.at_))
    (first | exact ⟨(Only.refl [] w).drew, c0, c2, x1, x2, y1, y2⟩ | exact ⟨hO, hO.cell c0 (by simp), hO.cell c2 (by simp), hO.cell x1 (by simp), hO.cell x2 (by simp), hO.cell y1 (by simp), hO.cell y2 (by simp)⟩)
    ((first | (go_at_call 83; refine (ahead_at _ x y).mono ?_; rintro e w' ⟨rfl, hO0⟩; have hO := (Only.refl [] w).drew.trans hO0)))
  go_wp2_with fail
  go_ret
  exact ⟨rfl, hO⟩
theorem row_keep {w w' : World} {base k n : Nat} {e : TypeId} {v : Value} {xs : List Value} (h : w.ownsRow base e k v n xs) (hk : ∀ g, v.ownBlock = some g → w'.heap[g]? = w.heap[g]?) : w'.ownsRow base e k v n xs := by
  refine ⟨h.1, ?_⟩
  rcases h.2 with hn | ⟨g, cap, cur, rfl, h1, h2, h3⟩
  · exact .inl hn
  · exact .inr ⟨g, cap, cur, rfl, h1, (hk g rfl).trans h2, h3⟩
theorem IdxOk.inj {L : List Tm} {l : List (Int × Value)} (h : IdxOk L l) {k k' : Nat} {a b : Tm} (ha : L[k]? = some a) (hb : L[k']? = some b) (e : a.id = b.id) : k = k' := by
  have h1 := h.at_ k a ha
  have h2 := h.at_ k' b hb
  rw [e, h2] at h1
  simp at h1
  omega
theorem IdxOk.sw {L : List Tm} {l : List (Int × Value)} (h : IdxOk L l) {i j : Nat} {x y : Tm} (hx : L[i]? = some x) (hy : L[j]? = some y) : IdxOk (sw L i j x y) (mset x.id (.int .i64 j) (mset y.id (.int .i64 i) l)) := by
  refine ⟨?_, ?_⟩
  · intro k z hz
    rw [sw_get hx hy] at hz
    rw [mget_mset, mget_mset]
    by_cases e1 : k = j
    · rw [if_pos e1] at hz; cases hz; rw [if_pos rfl, e1]
    · rw [if_neg e1] at hz
      by_cases e2 : k = i
      · rw [if_pos e2] at hz; cases hz
        rw [if_neg (fun e => e1 (e2.trans (h.inj hy hx e).symm)), if_pos rfl, e2]
      · rw [if_neg e2] at hz
        rw [if_neg (fun e => e2 (h.inj hz hx e)), if_neg (fun e => e1 (h.inj hz hy e))]
        exact h.at_ k z hz
  · intro n v hv
    rw [mget_mset, mget_mset] at hv
    by_cases e1 : n = x.id
    · rw [if_pos e1] at hv; cases hv
      exact ⟨j, x, by rw [sw_get hx hy, if_pos rfl], e1.symm, rfl⟩
    · rw [if_neg e1] at hv
      by_cases e2 : n = y.id
      · rw [if_pos e2] at hv; cases hv
        refine ⟨i, y, ?_, e2.symm, rfl⟩
        rw [sw_get hx hy, if_neg (fun e => ?_), if_pos rfl]
        rw [e, hy] at hx; cases hx; exact e1 e2
      · rw [if_neg e2] at hv
        obtain ⟨k, z, hz, hn, rfl⟩ := h.only n v hv
        refine ⟨k, z, ?_, hn, rfl⟩
        rw [sw_get hx hy, if_neg (fun e => ?_), if_neg (fun e => ?_)]
        · exact hz
        · rw [e, hx] at hz; cases hz; exact e1 hn.symm
        · rw [e, hy] at hz; cases hz; exact e2 hn.symm
theorem flat_set {L : List Tm} {k : Nat} (z : Tm) (hk : k < L.length) : ((L.flatMap Tm.cells).set (k * 2) (.int .i64 z.id)).set (k * 2 + 1) (.int .i64 z.at_) = (L.set k z).flatMap Tm.cells := by
  induction L generalizing k with
  | nil => simp at hk
  | cons y L ih =>
    cases k with
    | zero => simp [List.flatMap_cons, Tm.cells]
    | succ k =>
      have e1 : (k + 1) * 2 = k * 2 + 1 + 1 := by omega
      have := ih (k := k) (by simpa using hk)
      rw [e1]
      simp only [List.flatMap_cons, Tm.cells, List.set_cons_succ, List.cons_append, List.nil_append]
      exact congrArg _ (congrArg _ this)
theorem tmflat_len (L : List Tm) : (L.flatMap Tm.cells).length = L.length * 2 := by
  induction L with
  | nil => rfl
  | cons y L ih => simp only [List.flatMap_cons, List.length_append, ih, Tm.cells, List.length_cons, List.length_nil]; omega
theorem PileAt.blocks {w : World} {p bm : Nat} {v : Value} {L : List Tm} (h : PileAt w p bm v L) : p ≠ bm ∧ ∀ g, v.ownBlock = some g → p ≠ g ∧ bm ≠ g := by
  obtain ⟨es, ck, l, hb, _, _⟩ := h.hm
  refine ⟨fun e => ?_, fun g hg => ?_⟩
  · have := h.hp; rw [e, hb] at this; simp at this
  · rcases h.row.2 with ⟨rfl, _⟩ | ⟨g', cap, cur, rfl, _, hr, _⟩
    · simp [Value.ownBlock] at hg
    · simp [Value.ownBlock] at hg
      subst hg
      refine ⟨fun e => ?_, fun e => ?_⟩
      · have := h.hp; rw [e, hr] at this; simp at this
      · rw [e, hr] at hb; simp at hb
set_option maxRecDepth 100000 in
set_option maxHeartbeats 2000000 in
theorem pileSwap_at {w : World} {p bm : Nat} {v : Value} {L : List Tm} (h : PileAt w p bm v L) {i j : Nat} {x y : Tm} (hx : L[i]? = some x) (hy : L[j]? = some y) :
    Calls Try.prog 82 #[.pointer (some ⟨p, 0, none⟩), .int .i64 i, .int .i64 j] w fun e w' => e = .returned (.tuple #[]) ∧ PileAt w' p bm v (sw L i j x y) ∧ Only (bm :: v.ownBlock.toList) w w' := by
  have c0 := h.c0
  have c1 := h.c1
  obtain ⟨g, cap, rfl, hcap, x1, x2, fx1, fx2⟩ := h.elem hx
  obtain ⟨g', cap', e, _, y1, y2, fy1, fy2⟩ := h.elem hy
  cases e
  have hi0 := (List.getElem?_eq_some_iff.1 hx).1
  have hj0 := (List.getElem?_eq_some_iff.1 hy).1
  have hi : (i : Int) < L.length := by omega
  have hj : (j : Int) < L.length := by omega
  obtain ⟨hpbm, hbl⟩ := h.blocks
  obtain ⟨hpg, hbg⟩ := hbl g rfl
  have r1 := h.row.stored (i * 2) (.int .i64 y.id)
  have r2 := r1.1.stored (i * 2 + 1) (.int .i64 y.at_)
  have r3 := r2.1.stored (j * 2) (.int .i64 x.id)
  have r4 := r3.1.stored (j * 2 + 1) (.int .i64 x.at_)
  have f1 : ∃ u, (w.setCell ⟨g, i * 2, none⟩ (.int .i64 y.id)).cell? ⟨g, j * 2, none⟩ = some u := ⟨_, (r1.1.cellAt (j * 2) (by omega)).trans (List.getElem?_eq_getElem (by simp only [List.length_set, tmflat_len]; omega))⟩
  have f2 : ∃ u, ((w.setCell ⟨g, i * 2, none⟩ (.int .i64 y.id)).setCell ⟨g, i * 2 + 1, none⟩ (.int .i64 y.at_)).cell? ⟨g, j * 2 + 1, none⟩ = some u := ⟨_, (r2.1.cellAt (j * 2 + 1) (by omega)).trans (List.getElem?_eq_getElem (by simp only [List.length_set, tmflat_len]; omega))⟩
  obtain ⟨u1, f1⟩ := f1
  obtain ⟨u2, f2⟩ := f2
  have hr := r4.1
  rw [flat_set y hi0, flat_set x (by simpa using hj0)] at hr
  have hO : Only [g] w ((((w.setCell ⟨g, i * 2, none⟩ (.int .i64 y.id)).setCell ⟨g, i * 2 + 1, none⟩ (.int .i64 y.at_)).setCell ⟨g, j * 2, none⟩ (.int .i64 x.id)).setCell ⟨g, j * 2 + 1, none⟩ (.int .i64 x.at_)) :=
    ((((Only.refl [g] w).setCell (.inl (by simp)) _).setCell (.inl (by simp)) _).setCell (.inl (by simp)) _).setCell (.inl (by simp)) _
  have H := Lib.hid h
  have HX := Lib.hid hx
  have HY := Lib.hid hy
  have HR := Lib.hid hr
  have HO := Lib.hid hO
  clear h hx hy r1 r2 r3 r4 hr hO hbl
  go_enter Try.func82, Try.ntmps82
  go_upto_region 0 with (fail)
  go_cut [] from 3 to 31 (fun wx => wx.ownsRow 0 92 2 (.slice (some ⟨g, 0, none⟩) L.length cap) L.length ((sw L i j x y).flatMap Tm.cells) ∧ Only [g] w wx)
  case first =>
    go_region
    all_goals (go_wp2_with fail)
    go_meet
    case rel => exact ⟨HR.out, HO.out.drew⟩
  case rest =>
    obtain ⟨hr2, hO2⟩ := hcut
    have hp2 : wc.heap[p]? = _ := hO2.keep H.out.hp (by simpa using hpg)
    obtain ⟨es, ck, l, hb, hM, hI⟩ := H.out.hm
    have hb2 := hO2.keep hb (by simpa using hbg)
    have c0' : wc.cell? ⟨p, 0, none⟩ = _ := cell_at hp2 rfl
    have c1' : wc.cell? ⟨p, 1, none⟩ = _ := cell_at hp2 rfl
    have hxy : i = j → x = y := fun e => by have h1 := HX.out; rw [e, HY.out] at h1; cases h1; rfl
    have hyi : (sw L i j x y)[i]? = some y := by
      rw [sw_get HX.out HY.out]
      by_cases e : i = j
      · rw [if_pos e, hxy e]
      · rw [if_neg e, if_pos rfl]
    have hxj : (sw L i j x y)[j]? = some x := by rw [sw_get HX.out HY.out, if_pos rfl]
    have g1 := (hr2.cellAt (i * 2) (by omega)).trans (flat_cell hyi).1
    have g2 := (hr2.cellAt (j * 2) (by omega)).trans (flat_cell hxj).1
    obtain ⟨st1, m1, n1⟩ := run_mentry (P := Try.prog) (b := bm) Try.underlying80 Try.underlying3 hM (hI.at_ j y HY.out)
    obtain ⟨es1, hM1, s1⟩ := n1 (.int .i64 i)
    have hg1 : mget x.id (mset y.id (.int .i64 i) l) = some (.int .i64 i) := by
      rw [mget_mset]
      split
      · rfl
      · exact hI.at_ i x HX.out
    obtain ⟨st2, m2, n2⟩ := run_mentry (P := Try.prog) (b := bm) Try.underlying80 Try.underlying3 hM1 hg1
    obtain ⟨es2, hM2, s2⟩ := n2 (.int .i64 j)
    have hb3 : (ChangeMaps.setBlock wc.drew bm (.map es1 ck)).heap[bm]? = some (.map es1 ck) := setB_same (o' := .map es ck) hb2
    have q1 := m1 wc.drew hb2
    have q2 := s1 wc.drew hb2
    have q3 := m2 _ hb3
    have q4 := s2 _ hb3
    have hI2 := hI.sw HX.out HY.out
    have HI2 := Lib.hid hI2
    have HM2 := Lib.hid hM2
    have HR2 := Lib.hid hr2
    have HO2 := Lib.hid hO2
    have HB := Lib.hid hb3
    have HP2 := Lib.hid hp2
    clear hr2 hO2 hp2 hb hM hI hb2 hM1 hg1 m1 n1 s1 m2 n2 s2 hM2 hI2 hyi hxj hxy HR HO f1 f2 x1 x2 y1 y2 fx1 fx2 fy1 fy2 c0 c1 hb3
    go_wp2_with fail
    go_region
    go_wp2_with fail
    go_end0
    refine ⟨rfl, ⟨?_, ?_, ⟨es2, ck, _, setB_same (o' := .map es1 ck) HB.out, HM2.out, HI2.out⟩, by rw [sw_len]; exact H.out.few⟩, ?_⟩
    · rw [setB_other hpbm, setB_other hpbm]; exact HP2.out
    · rw [sw_len]
      refine row_keep HR2.out fun g' hg' => ?_
      simp [Value.ownBlock] at hg'
      subst hg'
      rw [setB_other (Ne.symm hbg), setB_other (Ne.symm hbg)]; rfl
    · exact (((HO2.out.mono (G := bm :: [g]) (fun b hb => .inl (by simp at hb ⊢; exact .inr hb))).drew).setB (.inl (by simp)) _).setB (.inl (by simp)) _
end Go.Proofs.Ytllfehahjkbhiaa
