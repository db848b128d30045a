/- Timers: Set. -/
import Derived.Test.YtllfehahjkbhiaaTim
namespace Go.Proofs.Ytllfehahjkbhiaa
open Go.RowKit Go.Lib
set_option linter.unusedSimpArgs false
set_option linter.unusedVariables false
theorem info_tint : (Try.prog.info? 3).map (fun i => (i.zero, i.size, i.bytes)) = some (some (.int .i64 0), 1, 8) := by kernel_rfl
theorem timSet_nil (id at_ : Int) (w : World) : Calls Try.prog 28 #[.pointer none, .int .i64 id, .int .i64 at_] w fun e w' => e = .returned (.int .i64 1) ∧ w = w' := by
  go_enter Try.func28, Try.ntmps28
  go_wp2_with fail
  go_ret
  exact ⟨rfl, rfl⟩
/-- A heap's numbers, as those of the list in order. -/
theorem IdxOk.nodup {L : List Tm} {l : List (Int × Value)} (h : IdxOk L l) : (L.map Tm.id).Nodup := by
  rw [List.Nodup, List.pairwise_map, List.pairwise_iff_getElem]
  intro i j hi hj hij e
  have := h.inj (List.getElem?_eq_getElem hi) (List.getElem?_eq_getElem hj) e
  omega
theorem IdxOk.setAt {L : List Tm} {l : List (Int × Value)} (h : IdxOk L l) {i : Nat} {x z : Tm} (hx : L[i]? = some x) (hz : z.id = x.id) : IdxOk (L.set i z) l := by
  have hi := (List.getElem?_eq_some_iff.1 hx).1
  refine ⟨fun k y hy => ?_, fun n v hv => ?_⟩
  · by_cases e : i = k
    · subst e; rw [List.getElem?_set_self hi] at hy; cases hy; rw [hz]; exact h.at_ i x hx
    · rw [List.getElem?_set_ne e] at hy; exact h.at_ k y hy
  · obtain ⟨k, y, hy, hn, hv'⟩ := h.only n v hv
    by_cases e : i = k
    · subst e; rw [hx] at hy; cases hy
      exact ⟨i, z, List.getElem?_set_self hi, hz.trans hn, hv'⟩
    · exact ⟨k, y, by rw [List.getElem?_set_ne e]; exact hy, hn, hv'⟩
/-- 'p.l[i].At = at'. -/
theorem PileAt.setAt {w w' : World} {p bm g cap : Nat} {L : List Tm} (h : PileAt w p bm (.slice (some ⟨g, 0, none⟩) L.length cap) L) {i : Nat} {x : Tm} (hx : L[i]? = some x) (at_ : Int) (hw : w' = (w.setCell ⟨g, i * 2 + 1, none⟩ (.int .i64 at_))) :
    PileAt w' p bm (.slice (some ⟨g, 0, none⟩) L.length cap) (L.set i ⟨x.id, at_⟩) := by
  subst hw
  have hi := (List.getElem?_eq_some_iff.1 hx).1
  obtain ⟨hpbm, hbl⟩ := h.blocks
  obtain ⟨hpg, hbg⟩ := hbl g rfl
  obtain ⟨es, ck, l, hb, hM, hI⟩ := h.hm
  refine ⟨(heap_store_ne hpg).trans h.hp, ?_, ⟨es, ck, l, (heap_store_ne hbg).trans hb, hM, hI.setAt hx rfl⟩, by simpa using h.few⟩
  have r1 := (h.row.stored (i * 2 + 1) (.int .i64 at_)).1
  have e1 : (L.flatMap Tm.cells).set (i * 2 + 1) (.int .i64 at_) = (L.set i ⟨x.id, at_⟩).flatMap Tm.cells := by
    rw [← flat_set ⟨x.id, at_⟩ hi]
    congr 1
    have h1 := (flat_cell hx).1
    obtain ⟨hk, he⟩ := List.getElem?_eq_some_iff.1 h1
    rw [← he, List.set_getElem_self]
  rw [e1] at r1
  rw [List.length_set]
  exact r1
theorem tim_ne {w : World} {t p bm : Nat} {v u : Value} {L : List Tm} (ht : w.heap[t]? = some (.cells #[u] 89 (0, 0))) (hP : PileAt w p bm v L) : t ≠ p ∧ t ≠ bm ∧ ∀ g, v.ownBlock = some g → t ≠ g := by
  obtain ⟨es', ck', l', hb', _, _⟩ := hP.hm
  refine ⟨fun e => ?_, fun e => ?_, fun g hg e => ?_⟩
  · rw [e, hP.hp] at ht; simp at ht
  · rw [e, hb'] at ht; simp at ht
  · rcases hP.row.2 with ⟨rfl, _⟩ | ⟨g', cap', cur, rfl, _, hr, _⟩
    · simp [Value.ownBlock] at hg
    · simp [Value.ownBlock] at hg; subst hg
      rw [e, hr] at ht; simp at ht
set_option maxRecDepth 100000 in
set_option maxHeartbeats 2000000 in
theorem timSet_at {w : World} {t : Nat} {F : List Nat} {S : List Tm} (h : TimAt w t F S) (id at_ : Int) :
    Calls Try.prog 28 #[.pointer (some ⟨t, 0, none⟩), .int .i64 id, .int .i64 at_] w fun e w' => e = .returned (.int .i64 (tset S id at_).2) ∧ ∃ F', TimAt w' t F' (tset S id at_).1 ∧ Only F w w' ∧ ∀ b ∈ F', b ∈ F ∨ w.heap.size ≤ b := by
  have hsok := tset_ok h.ok id at_
  by_cases hbad : id < 0 ∨ at_ < 0 ∨ 1099511627776 < at_
  · have e1 : tset S id at_ = (S, 1) := by unfold tset; rw [if_pos hbad]
    rw [e1]
    have H := Lib.hid h
    clear h hsok e1
    by_cases h1 : id < 0
    · have d1 : decide (id < 0) = true := decide_eq_true h1
      go_enter Try.func28, Try.ntmps28
      go_wp2_with fail
      go_ret
      exact ⟨rfl, F, H.out, Only.refl _ _, fun b hb => .inl hb⟩
    · have d1 : decide (id < 0) = false := decide_eq_false h1
      by_cases h2 : at_ < 0
      · have d2 : decide (at_ < 0) = true := decide_eq_true h2
        go_enter Try.func28, Try.ntmps28
        go_wp2_with fail
        go_ret
        exact ⟨rfl, F, H.out, Only.refl _ _, fun b hb => .inl hb⟩
      · have d2 : decide (at_ < 0) = false := decide_eq_false h2
        have d3 : decide (1099511627776 < at_) = true := decide_eq_true (by omega)
        go_enter Try.func28, Try.ntmps28
        go_wp2_with fail
        go_ret
        exact ⟨rfl, F, H.out, Only.refl _ _, fun b hb => .inl hb⟩
  · have d1 : decide (id < 0) = false := decide_eq_false (by omega)
    have d2 : decide (at_ < 0) = false := decide_eq_false (by omega)
    have d3 : decide (1099511627776 < at_) = false := decide_eq_false (by omega)
    have ht2 : tset S id at_ = if 64 ≤ (tout id S).length then (S, 5) else (tins ⟨id, at_⟩ (tout id S), 0) := by unfold tset; rw [if_neg hbad]
    have H0 := Lib.hid h
    obtain ⟨p, bm, v, L, ht, hP, hh, hp, rfl⟩ := h.obj
    have c0 := cell_at (o := 0) ht rfl
    have p0 := hP.c0
    have p1 := hP.c1
    obtain ⟨es, ck, l, hb, hM, hI⟩ := hP.hm
    have HOK := Lib.hid h.ok
    have HSOK := Lib.hid hsok
    have HT2 := Lib.hid ht2
    have HT := Lib.hid ht
    have HP := Lib.hid hP
    have HH := Lib.hid hh
    have HPM := Lib.hid hp
    have HI := Lib.hid hI
    clear h hsok ht2 ht hP hh hp
    cases hg : mget id l with
    | some u =>
      obtain ⟨i, x, hx, hxi, rfl⟩ := hI.only id u hg
      have hrun := run_mlookup_some (P := Try.prog) (c := true) Try.underlying80 Try.underlying3 hb hM hg
      rw [if_pos rfl] at hrun
      obtain ⟨g, cap, rfl, hcap, x1, x2, f1, f2⟩ := HP.out.elem hx
      have hi : (i : Int) < L.length := by have := (List.getElem?_eq_some_iff.1 hx).1; omega
      have HX := Lib.hid hx
      have HXI := Lib.hid hxi
      clear hb hM hI hg hx hxi
      go_enter Try.func28, Try.ntmps28
      go_wp2_with fail
      generalize hW : w.setCell ⟨g, i * 2 + 1, none⟩ (.int .i64 at_) = W at *
      have hP2 := HP.out.setAt HX.out at_ hW.symm
      have hOW : Only (t :: p :: bm :: (Value.slice (some ⟨g, 0, none⟩) L.length cap).ownBlock.toList) w W := by
        rw [← hW]; exact (Only.refl _ w).setCell (.inl (by simp [Value.ownBlock])) _
      have htW : W.heap[t]? = w.heap[t]? := by
        rw [← hW]
        refine heap_store_ne fun e => ?_
        have h1 := HT.out
        rcases HP.out.row.2 with ⟨e', _⟩ | ⟨g', cap', cur, e', _, hr, _⟩
        · simp at e'
        · simp at e'; obtain ⟨rfl, rfl⟩ := e'
          rw [e] at h1; rw [hr] at h1; simp at h1
      have hxid := HXI.out
      rw [hxid] at hP2
      have hdn : DnOk (L.set i ⟨id, at_⟩).length (L.set i ⟨id, at_⟩) i i := by
        rw [List.length_set]
        exact DnOk.of_hp HH.out (Nat.le_refl _) fun k hk hne => List.getElem?_set_ne (Ne.symm hne)
      have hpm : (L.set i ⟨id, at_⟩).Perm (⟨id, at_⟩ :: tout id S) := by
        have h1 := out_perm HX.out HI.out.nodup ⟨id, at_⟩
        rw [hxid] at h1
        exact h1.trans ((tout_perm HPM.out id).cons _)
      have hlen : (tout id S).length < 64 := by
        have h1 := hpm.length_eq
        have h2 := HPM.out.length_eq
        have h3 := HOK.out.few
        simp at h1
        omega
      have hts : tset S id at_ = (tins ⟨id, at_⟩ (tout id S), 0) := by rw [HT2.out, if_neg (by omega)]
      have HSOK2 := HSOK.out
      rw [hts] at HSOK2
      have HS2 := Lib.hid HSOK2
      have HTS := Lib.hid hts
      have HP2 := Lib.hid hP2
      have HOW := Lib.hid hOW
      have HTW := Lib.hid (htW.trans HT.out)
      have HPM2 := Lib.hid (hpm.trans (tins_perm _ _).symm)
      clear hW hP2 hOW htW hxid hpm hts HSOK2 p0 p1 c0 x1 x2 f1 f2 hrun
      refine (fix_at HP2.out hdn (by simp; omega)).mono ?_
      rintro e w3 ⟨rfl, L3, hP3, hperm3, hH3, hO3⟩
      have HP3 := Lib.hid hP3
      have HPM3 := Lib.hid (hperm3.trans HPM2.out)
      have HH3 := Lib.hid hH3
      have htb : t ≠ bm ∧ t ≠ g := by
        have h1 := HTW.out
        obtain ⟨es', ck', l', hb', _, _⟩ := HP2.out.hm
        refine ⟨fun e => ?_, fun e => ?_⟩
        · rw [e, hb'] at h1; simp at h1
        · rcases HP2.out.row.2 with ⟨e', _⟩ | ⟨g', cap', cur, e', _, hr, _⟩
          · simp at e'
          · simp at e'; obtain ⟨rfl, rfl⟩ := e'
            rw [e, hr] at h1; simp at h1
      have HT3 := Lib.hid (hO3.keep HTW.out (by simp [Value.ownBlock]; exact htb))
      have HO3 := Lib.hid (HOW.out.call hO3 (fun b hb => .inl (by simp [Value.ownBlock] at hb ⊢; omega)))
      clear hP3 hperm3 hH3 hO3 hdn
      go_wp2_with fail
      go_ret
      rw [HTS.out]
      exact ⟨rfl, _, ⟨HS2.out, p, bm, _, L3, HT3.out, HP3.out, HH3.out, HPM3.out, rfl⟩, HO3.out, fun b hb => .inl hb⟩
    | none =>
      have hne : ∀ y ∈ L, y.id ≠ id := fun y hy e => by
        obtain ⟨k, hk⟩ := List.getElem?_of_mem hy
        have := hI.at_ k y hk
        rw [e, hg] at this; cases this
      have hneS : ∀ y ∈ S, y.id ≠ id := fun y hy => hne y (HPM.out.mem_iff.2 hy)
      have hto := tout_none hneS
      obtain ⟨i3, hi3, hz3, hs3, hb3⟩ := info_parts info_tint
      have hrun := run_mlookup_none (P := Try.prog) Try.underlying80 Try.underlying3 hi3 hz3 hb hM hg true
      rw [if_pos rfl] at hrun
      have hv : ∃ a cap, v = .slice a L.length cap := by
        rcases HP.out.row.2 with ⟨rfl, h0⟩ | ⟨g, cap, cur, hv, _, hb, h1, h2, h3, h4⟩
        · exact ⟨none, 0, by rw [h0]⟩
        · exact ⟨_, _, hv⟩
      obtain ⟨a, cap, rfl⟩ := hv
      have hlen := HPM.out.length_eq
      have HNE := Lib.hid hne
      have HTO := Lib.hid hto
      have HLEN := Lib.hid hlen
      have hfew := HOK.out.few
      clear hb hM hI hg hne hneS hto hi3 hz3 hs3 hb3
      by_cases hfull : 64 ≤ S.length
      · have hts : tset S id at_ = (S, 5) := by rw [HT2.out, HTO.out, if_pos hfull]
        rw [hts]
        have hf1 : decide (64 ≤ (L.length : Int)) = true := decide_eq_true (by omega)
        clear hts hlen
        go_enter Try.func28, Try.ntmps28
        go_wp2_with fail
        go_ret
        exact ⟨rfl, _, H0.out, Only.refl _ _, fun b hb => .inl hb⟩
      · have hts : tset S id at_ = (tins ⟨id, at_⟩ S, 0) := by rw [HT2.out, HTO.out, if_neg hfull]
        have HSOK2 := HSOK.out
        rw [hts] at HSOK2
        rw [hts]
        have HS2 := Lib.hid HSOK2
        have hf1 : decide (64 ≤ (L.length : Int)) = false := decide_eq_false (by omega)
        have hroom : L.length < 1048576 := by omega
        clear hts HSOK2 hlen
        go_enter Try.func28, Try.ntmps28
        go_wp2_with fail
        refine (hpush_at HP.out HH.out ⟨id, at_⟩ HNE.out hroom).mono ?_
        rintro e w3 ⟨rfl, v3, L3, hP3, hperm3, hH3, hO3, hf3⟩
        obtain ⟨n1, n2, n3⟩ := tim_ne HT.out HP.out
        have hperm : L3.Perm (tins ⟨id, at_⟩ S) := hperm3.trans ((perm_last L ⟨id, at_⟩).trans ((HPM.out.cons _).trans (tins_perm _ _).symm))
        have HP3 := Lib.hid hP3
        have HPM3 := Lib.hid hperm
        have HH3 := Lib.hid hH3
        have HT3 := Lib.hid (hO3.keep HT.out (by simp; exact ⟨n1, n2, fun e => n3 t e rfl⟩))
        have HO3 := Lib.hid (hO3.mono (G := t :: p :: bm :: (Value.slice a L.length cap).ownBlock.toList) (fun b hb => .inl (by simp at hb ⊢; exact .inr hb)))
        have HF3 := Lib.hid hf3
        clear hP3 hperm3 hH3 hO3 hf3 hperm
        go_wp2_with fail
        go_ret
        refine ⟨rfl, _, ⟨HS2.out, p, bm, _, L3, HT3.out, HP3.out, HH3.out, HPM3.out, rfl⟩, HO3.out, fun b hb => ?_⟩
        simp at hb
        rcases hb with rfl | rfl | rfl | hb
        · exact .inl (by simp)
        · exact .inl (by simp)
        · exact .inl (by simp)
        · rcases HF3.out b hb with h | h
          · exact .inl (by simp [h])
          · exact .inr h
end Go.Proofs.Ytllfehahjkbhiaa
