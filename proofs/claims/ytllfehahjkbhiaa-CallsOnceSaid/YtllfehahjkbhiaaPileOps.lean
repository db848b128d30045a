/- One more timer at a pile's end; the last one taken off. -/
import Derived.Test.YtllfehahjkbhiaaPile
import Derived.Test.YtllfehahjkbhiaaBytes
import Derived.Deep.AppendLies
import Derived.Deep.RegionLaw
namespace Go.Proofs.Ytllfehahjkbhiaa
open Go.RowKit Go.Lib
set_option linter.unusedSimpArgs false
set_option linter.unusedVariables false
theorem info_tm : (Try.prog.info? 92).map (fun i => (i.zero, i.size, i.bytes)) = some (some (.agg #[.int .i64 0, .int .i64 0]), 2, 16) := by kernel_rfl
theorem assert_tm (c : Array Value) (w : World) : (Instr.typeAssert (.iface 92 (.agg c)) 20 92 true).run Try.prog w = .ok (.tuple #[.agg c, .bool true]) w := by kernel_rfl
theorem IdxOk.push {L : List Tm} {l : List (Int × Value)} (h : IdxOk L l) (t : Tm) (ht : mget t.id l = none) : IdxOk (L ++ [t]) (mset t.id (.int .i64 L.length) l) := by
  refine ⟨?_, ?_⟩
  · intro k z hz
    rw [mget_mset]
    rcases Nat.lt_trichotomy k L.length with hk | hk | hk
    · rw [List.getElem?_append_left hk] at hz
      have := h.at_ k z hz
      rw [if_neg (fun e => by rw [e, ht] at this; cases this)]
      exact this
    · subst hk
      rw [List.getElem?_concat_length] at hz
      cases hz
      rw [if_pos rfl]
    · rw [List.getElem?_eq_none (by simp; omega)] at hz; cases hz
  · intro n v hv
    rw [mget_mset] at hv
    by_cases e : n = t.id
    · rw [if_pos e] at hv; cases hv
      exact ⟨L.length, t, List.getElem?_concat_length, e.symm, rfl⟩
    · rw [if_neg e] at hv
      obtain ⟨k, x, h1, h2, h3⟩ := h.only n v hv
      exact ⟨k, x, by rw [List.getElem?_append_left (List.getElem?_eq_some_iff.1 h1).1]; exact h1, h2, h3⟩
theorem new_cells {W : World} {N : Nat} (hN : N = W.heap.size) (cs : Array Value) (E : TypeId) : ∀ (j : Nat) (u : Value), cs.toList[j]? = some u → (W.alloc (.cells cs E)).drew.cell? ((⟨N, 0, none⟩ : Addr).add j) = some u := by
  intro j u hu
  have h : (W.alloc (.cells cs E)).drew.heap[N]? = some (.cells cs E (0, 0)) := heap_alloc_at hN
  have := cell_at (o := j) h (v := u) (by simpa using hu)
  cases j with
  | zero => simpa [Addr.add] using this
  | succ j => simpa [Addr.add] using this
theorem tm_one (t : Tm) : ∀ u ∈ t.cells, u.oneCell' = true := by
  intro u hu
  simp [Tm.cells] at hu
  rcases hu with rfl | rfl <;> rfl
set_option maxRecDepth 100000 in
set_option maxHeartbeats 2000000 in
theorem pilePush_at {w : World} {p bm : Nat} {v : Value} {L : List Tm} (h : PileAt w p bm v L) (t : Tm) (hnew : ∀ x ∈ L, x.id ≠ t.id) (hroom : L.length < 1048576) :
    Calls Try.prog 81 #[.pointer (some ⟨p, 0, none⟩), .iface 92 (.agg #[.int .i64 t.id, .int .i64 t.at_])] w fun e w' => e = .returned (.tuple #[]) ∧ ∃ v', PileAt w' p bm v' (L ++ [t]) ∧ Only (p :: bm :: v.ownBlock.toList) w w' ∧ ∀ g, v'.ownBlock = some g → v.ownBlock = some g ∨ w.heap.size ≤ g := by
  have c0 := h.c0
  have c1 := h.c1
  obtain ⟨hpbm, hbl⟩ := h.blocks
  obtain ⟨es, ck, l, hb, hM, hI⟩ := h.hm
  have hnone : mget t.id l = none := by
    cases e : mget t.id l with
    | none => rfl
    | some u =>
      obtain ⟨k, x, h1, h2, _⟩ := hI.only _ _ e
      exact (hnew x (List.mem_of_getElem? h1) h2).elim
  have hI2 := hI.push t hnone
  obtain ⟨es2, ck2, hset, hM2⟩ := run_mset (P := Try.prog) (b := bm) (k := t.id) (v := .int .i64 L.length) Try.underlying80 Try.underlying3 hM
  have hpl := lt_of_heap h.hp
  have hbl2 := lt_of_heap hb
  have hrun : ∀ wx : World, wx.heap[bm]? = some (.map es ck) → _ := fun wx hx => hset wx.drew hx
  have hv : ∃ a cap, v = .slice a L.length cap := by
    rcases h.row.2 with ⟨rfl, h0⟩ | ⟨g, cap, cur, hv, _, hb, h1, h2, h3, h4⟩
    · exact ⟨none, 0, by rw [h0]⟩
    · exact ⟨_, _, hv⟩
  obtain ⟨a, cap, rfl⟩ := hv
  have has := assert_tm
  have H := Lib.hid h
  have HI2 := Lib.hid hI2
  have HM2 := Lib.hid hM2
  clear h hI hM hI2 hM2 hset hnone hnew
  have hq := hrun (w.alloc (.cells #[.int .i64 t.id, .int .i64 t.at_] 92)) (by rw [heap_alloc_ne hbl2]; exact hb)
  clear hrun
  go_enter Try.func81, Try.ntmps81
  go_wp2_with fail
  go_region
  go_wp2_with fail
  generalize hW : (ChangeMaps.setBlock (w.alloc (.cells #[.int .i64 t.id, .int .i64 t.at_] 92)).drew bm (.map es2 ck2)) = W at *
  have hsz : W.heap.size = w.heap.size + 1 := by rw [← hW]; simp
  have hpW : W.heap[p]? = w.heap[p]? := by rw [← hW, setB_other hpbm]; exact heap_alloc_ne hpl
  have hbW : W.heap[bm]? = some (.map es2 ck2) := by rw [← hW]; exact setB_same (o' := .map es ck) (by rw [heap_drew, heap_alloc_ne hbl2]; exact hb)
  have hgW : ∀ g, (Value.slice a L.length cap).ownBlock = some g → g < w.heap.size ∧ W.heap[g]? = w.heap[g]? := by
    intro g hg
    have hgl : g < w.heap.size := by
      rcases H.out.row.2 with ⟨e, _⟩ | ⟨g', cap', cur, e, _, hr, _⟩
      · rw [e] at hg; simp [Value.ownBlock] at hg
      · rw [e] at hg; simp [Value.ownBlock] at hg; subst hg; exact lt_of_heap hr
    exact ⟨hgl, by rw [← hW, setB_other (Ne.symm (hbl g hg).2)]; exact heap_alloc_ne hgl⟩
  have htW : W.heap[w.heap.size]? = some (.cells #[.int .i64 t.id, .int .i64 t.at_] 92 (0, 0)) := by rw [← hW, setB_other (by omega)]; exact heap_alloc_at rfl
  have hOW : Only [bm] w W := by rw [← hW]; exact (((Only.refl [bm] w).alloc _).drew).setB (.inl (by simp)) _
  have hrow : W.ownsRow 0 92 2 (.slice a L.length cap) L.length (L.flatMap Tm.cells) := row_keep H.out.row fun g hg => (hgW g hg).2
  have t0 : W.cell? ⟨w.heap.size, 0, none⟩ = some (.int .i64 t.id) := cell_at htW rfl
  have t1 : W.cell? ⟨w.heap.size, 1, none⟩ = some (.int .i64 t.at_) := cell_at htW rfl
  have p0 : W.cell? ⟨p, 0, none⟩ = some (.slice a L.length cap) := cell_at (hpW.trans H.out.hp) rfl
  have pf : W.frozen? ⟨p, 0, none⟩ = false := frozen_at (hpW.trans H.out.hp)
  obtain ⟨i, hi, hz, hs, hby⟩ := info_parts info_tm
  have HROW := Lib.hid hrow
  have HGW := Lib.hid hgW
  clear hrow hW hq hgW
  have k1 : L.length + 1 ≤ maxLen := by unfold maxLen; omega
  have k2 : (L.length + 1) * 16 ≤ 140737488355328 := by omega
  have k3 : ∀ g, (Value.slice a L.length cap).ownBlock = some g → (W.alloc (.cells #[.int .i64 t.id, .int .i64 t.at_] 92)).drew.heap[g]? = W.heap[g]? := fun g hg => heap_alloc_ne (by have := (HGW.out g hg).1; omega)
  have k4 := new_cells (W := W) (N := w.heap.size + 1) hsz.symm #[.int .i64 t.id, .int .i64 t.at_] 92
  have k5 := row_keep HROW.out k3
  have k6 : ∀ w' : World, (W.alloc (.cells #[.int .i64 t.id, .int .i64 t.at_] 92)).drew.grownBy w' (Value.slice a L.length cap).ownBlock → w'.heap[p]? = w.heap[p]? ∧ w'.heap[bm]? = some (.map es2 ck2) ∧ Only (p :: bm :: (Value.slice a L.length cap).ownBlock.toList) w w' := by
    intro w' hg
    have hx1 : some p ≠ (Value.slice a L.length cap).ownBlock := fun e => (hbl p e.symm).1 rfl
    have hx2 : some bm ≠ (Value.slice a L.length cap).ownBlock := fun e => (hbl bm e.symm).2 rfl
    refine ⟨((hg.block p (by simp; omega) hx1).trans (heap_alloc_ne (by omega))).trans hpW, ((hg.block bm (by simp; omega) hx2).trans (heap_alloc_ne (by omega))).trans hbW, ?_⟩
    exact (((hOW.mono (G := p :: bm :: (Value.slice a L.length cap).ownBlock.toList) (fun b hb => .inl (by simp at hb ⊢; exact .inr (.inl hb)))).alloc _).drew).grown hg (fun k hk => .inl (by simp [hk]))
  have K3 := Lib.hid k3
  have K4 := Lib.hid k4
  have K5 := Lib.hid k5
  have K6 := Lib.hid k6
  clear k3 k4 k5 k6
  go_region_law (refine step_append_lies _ rfl (.tmp 27) (.tmp 29) 83 rfl 0 92 i (.agg #[.int .i64 0, .int .i64 0]) 2 16 Try.underlying83 hi hz hs hby rfl (by decide) (.slice a L.length cap) L.length (L.flatMap Tm.cells) (by simp [Act.eval, Act.put]) K5.out ⟨w.heap.size + 1, 0, none⟩ 1 1 t.cells (by simp [Act.eval, Act.put]) rfl K4.out (tm_one t) (by decide) k1 k2 (Nat.zero_le _) _ rfl ?_; intro g cap' w' hrow' hgrown hor hlt; obtain ⟨e1, e2, hO⟩ := K6.out w' hgrown; have HROW' := Lib.hid hrow'; have HE1 := Lib.hid e1; have HE2 := Lib.hid e2; have p0' := cell_at (e1.trans H.out.hp) (show (#[Value.slice a L.length cap, .map (some bm), .iface 82 (.agg #[])] : Array Value)[0]? = some (.slice a L.length cap) from rfl); have pf' := frozen_at (o := 0) (e1.trans H.out.hp); clear hrow' hgrown e1 e2)
  all_goals (go_wp2_with fail)
  all_goals
    go_end0
    have hpg : p ≠ g := by
      rcases hor with h1 | h1
      · exact (hbl g h1).1
      · simp at h1; omega
    refine ⟨rfl, .slice (some ⟨g, 0, none⟩) (L.length + 1) cap', ⟨?_, ?_, ⟨es2, ck2, _, ?_, HM2.out, HI2.out⟩, by simp; omega⟩, ?_, ?_⟩
    · exact heap_store (HE1.out.trans H.out.hp)
    · have h1 := HROW'.out
      rw [List.length_append, List.flatMap_append]
      refine row_keep (by simpa using h1) fun g' hg' => heap_store_ne ?_
      simp [Value.ownBlock] at hg'
      subst hg'
      exact Ne.symm hpg
    · exact (heap_store_ne (Ne.symm hpbm)).trans HE2.out
    · exact hO.setCell (.inl (by simp)) _
    · intro g' hg'
      simp [Value.ownBlock] at hg'
      subst hg'
      rcases hor with h1 | h1
      · exact .inl h1
      · simp at h1; exact .inr (by omega)
theorem IdxOk.pop {L : List Tm} {t : Tm} {l : List (Int × Value)} (h : IdxOk (L ++ [t]) l) (hn : (l.map Prod.fst).Nodup) : IdxOk L (mdel t.id l) := by
  have ht : (L ++ [t])[L.length]? = some t := List.getElem?_concat_length
  refine ⟨?_, ?_⟩
  · intro k z hz
    have hk := (List.getElem?_eq_some_iff.1 hz).1
    have hz' : (L ++ [t])[k]? = some z := by rw [List.getElem?_append_left hk]; exact hz
    rw [mget_mdel _ _ _ hn, if_neg (fun e => by have := h.inj hz' ht e; omega)]
    exact h.at_ k z hz'
  · intro n v hv
    rw [mget_mdel _ _ _ hn] at hv
    by_cases e : n = t.id
    · rw [if_pos e] at hv; cases hv
    · rw [if_neg e] at hv
      obtain ⟨k, x, h1, h2, h3⟩ := h.only n v hv
      refine ⟨k, x, ?_, h2, h3⟩
      rcases Nat.lt_or_ge k L.length with hk | hk
      · rwa [List.getElem?_append_left hk] at h1
      · have : k = L.length := by have := (List.getElem?_eq_some_iff.1 h1).1; simp at this; omega
        subst this
        rw [ht] at h1; cases h1; exact (e h2.symm).elim
theorem row_pop {w : World} {base : Nat} {e : TypeId} {g cap : Nat} {L : List Tm} {t : Tm} (h : w.ownsRow base e 2 (.slice (some ⟨g, 0, none⟩) (L ++ [t]).length cap) (L ++ [t]).length ((L ++ [t]).flatMap Tm.cells)) :
    w.ownsRow base e 2 (.slice (some ⟨g, 0, none⟩) L.length cap) L.length (L.flatMap Tm.cells) := by
  refine ⟨tmflat_len L, .inr ?_⟩
  rcases h.2 with ⟨h', _⟩ | ⟨g', cap', cur, h', h1, h2, h3, h4, h5, h6⟩
  · simp at h'
  · simp only [Value.slice.injEq, Option.some.injEq, Addr.mk.injEq, and_true, true_and] at h'
    obtain ⟨rfl, rfl⟩ := h'
    refine ⟨g, cap, cur, rfl, h1, h2, by simp at h3; omega, h4, h5, ?_⟩
    have := congrArg (List.take (L.length * 2)) h6
    rw [List.take_take, List.flatMap_append, List.take_left' (tmflat_len L)] at this
    rwa [Nat.min_eq_left (by simp; omega)] at this
set_option maxRecDepth 100000 in
set_option maxHeartbeats 2000000 in
theorem pilePop_at {w : World} {p bm : Nat} {v : Value} {L : List Tm} {t : Tm} (h : PileAt w p bm v (L ++ [t])) :
    Calls Try.prog 80 #[.pointer (some ⟨p, 0, none⟩)] w fun e w' => e = .returned (.iface 92 (.agg #[.int .i64 t.id, .int .i64 t.at_])) ∧ ∃ v', PileAt w' p bm v' L ∧ Only [p, bm] w w' ∧ v'.ownBlock = v.ownBlock := by
  have c0 := h.c0
  have c1 := h.c1
  have pf : w.frozen? ⟨p, 0, none⟩ = false := frozen_at h.hp
  obtain ⟨hpbm, hbl⟩ := h.blocks
  obtain ⟨es, ck, l, hb, hM, hI⟩ := h.hm
  have ht : (L ++ [t])[L.length]? = some t := List.getElem?_concat_length
  obtain ⟨g, cap, rfl, hcap, x1, x2, _, _⟩ := h.elem ht
  obtain ⟨hpg, hbg⟩ := hbl g rfl
  have hI2 := hI.pop hM.nodup
  obtain ⟨i, hi, hz, hs, hby⟩ := info_parts info_tm
  have hrow := row_pop h.row
  have hlen : (L ++ [t]).length = L.length + 1 := by simp
  rw [hlen] at c0 hcap
  obtain ⟨es2, hdel, hM2⟩ := run_mdel (P := Try.prog) (b := bm) (k := t.id) 0 Try.underlying80 Try.underlying3 hM
  have hcut := fun wx => run_cuth (P := Try.prog) (w := wx) Try.underlying83 hi (some ⟨g, 0, none⟩) (L.length + 1) cap L.length (L.length : Int) rfl (by omega)
  have hpl := lt_of_heap h.hp
  have hbl2 := lt_of_heap hb
  have hfew := h.few
  have hw1 : IntKind.i64.wrap (L.length : Int) = L.length := by rw [IntWalk.i64_in _ (by omega)]
  have hw2 : wrap64 (L.length : Int) = L.length := IntWalk.wrap64_in _ (by omega)
  have hgl := World.block_lt_of_cell? _ _ x1
  have hgl : g < w.heap.size := hgl
  have y1 : (w.alloc (.cells #[.int .i64 0, .int .i64 0] 92)).cell? ⟨g, L.length * 2, none⟩ = some (.int .i64 t.id) := (World.cell?_of_block (heap_alloc_ne hgl)).trans x1
  have y2 : (w.alloc (.cells #[.int .i64 0, .int .i64 0] 92)).cell? ⟨g, L.length * 2 + 1, none⟩ = some (.int .i64 t.at_) := (World.cell?_of_block (heap_alloc_ne hgl)).trans x2
  have y3 : (w.alloc (.cells #[.int .i64 0, .int .i64 0] 92)).cell? ⟨p, 0, none⟩ = _ := (World.cell?_of_block (heap_alloc_ne hpl)).trans c0
  have hlt : (L.length : Int) < L.length + 1 := by omega
  have H := Lib.hid h
  have HI2 := Lib.hid hI2
  have HM2 := Lib.hid hM2
  have HROW := Lib.hid hrow
  have HDEL := Lib.hid hdel
  clear h hI hM hI2 hM2 hrow ht hbl hdel hlen
  go_enter Try.func80, Try.ntmps80
  go_wp2_with fail
  go_region
  go_wp2_with fail
  generalize hW : (w.alloc (.cells #[.int .i64 t.id, .int .i64 t.at_] 92)).drew = W at *
  have hpW : W.heap[p]? = w.heap[p]? := by rw [← hW]; exact heap_alloc_ne hpl
  have hbW : W.heap[bm]? = some (.map es ck) := by rw [← hW]; exact (heap_alloc_ne hbl2).trans hb
  have hgW : W.heap[g]? = w.heap[g]? := by rw [← hW]; exact heap_alloc_ne hgl
  have htW : W.heap[w.heap.size]? = some (.cells #[.int .i64 t.id, .int .i64 t.at_] 92 (0, 0)) := by rw [← hW]; exact heap_alloc_at rfl
  have hOW : Only [p, bm] w W := by rw [← hW]; exact ((Only.refl [p, bm] w).alloc _).drew
  have hP := hpW.trans H.out.hp
  have t0 : W.cell? ⟨w.heap.size, 0, none⟩ = some (.int .i64 t.id) := cell_at htW rfl
  have t1 : W.cell? ⟨w.heap.size, 1, none⟩ = some (.int .i64 t.at_) := cell_at htW rfl
  have p0 : W.cell? ⟨p, 0, none⟩ = some (.slice (some ⟨g, 0, none⟩) (L ++ [t]).length cap) := cell_at hP rfl
  have p1 : W.cell? ⟨p, 1, none⟩ = some (.map (some bm)) := cell_at hP rfl
  have pfW : W.frozen? ⟨p, 0, none⟩ = false := frozen_at hP
  have hlen : (L ++ [t]).length = L.length + 1 := by simp
  rw [hlen] at p0
  have hne1 : w.heap.size ≠ p := by omega
  have hne2 : p ≠ w.heap.size := by omega
  have HP := Lib.hid hP
  have HB := Lib.hid hbW
  have HG := Lib.hid hgW
  clear hW hP hpW hbW hgW c0 c1 x1 x2 y1 y2 y3
  have hb4 : ((W.setCell ⟨p, 0, none⟩ (.slice (some ⟨g, 0, none⟩) L.length cap)).drew).heap[bm]? = some (.map es ck) := (heap_store_ne (Ne.symm hpbm)).trans HB.out
  have q2 := HDEL.out (W.setCell ⟨p, 0, none⟩ (.slice (some ⟨g, 0, none⟩) L.length cap)).drew.drew hb4
  go_region
  go_wp2_with fail
  have hz4 : (ChangeMaps.setBlock (W.setCell ⟨p, 0, none⟩ (.slice (some ⟨g, 0, none⟩) L.length cap)).drew.drew bm (.map es2 ck)).heap[w.heap.size]? = some (.cells #[.int .i64 t.id, .int .i64 t.at_] 92 (0, 0)) := by
    rw [setB_other (by omega)]
    exact (heap_store_ne (by simpa using hne1)).trans htW
  have z0 := cell_at (o := 0) hz4 rfl
  have z1 := cell_at (o := 1) hz4 rfl
  go_region
  go_wp2_with fail
  go_ret
  refine ⟨rfl, .slice (some ⟨g, 0, none⟩) L.length cap, ⟨?_, ?_, ⟨es2, ck, _, setB_same (o' := .map es ck) hb4, HM2.out, HI2.out⟩, by have := H.out.few; simp at this; omega⟩, ?_, rfl⟩
  · rw [setB_other hpbm]; exact heap_store HP.out
  · refine row_keep HROW.out fun g' hg' => ?_
    simp [Value.ownBlock] at hg'
    subst hg'
    rw [setB_other (Ne.symm hbg)]
    exact (heap_store_ne (Ne.symm hpg)).trans HG.out
  · exact (((hOW.setCell (.inl (by simp)) _).drew).drew).setB (.inl (by simp)) _
end Go.Proofs.Ytllfehahjkbhiaa
