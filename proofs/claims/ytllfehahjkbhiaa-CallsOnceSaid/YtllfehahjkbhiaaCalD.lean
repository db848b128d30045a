/- What is sent, call by call: the fold's invariant, and the timers beside it. No program is named. -/
import Derived.Test.YtllfehahjkbhiaaCalM
namespace Go.Proofs.Ytllfehahjkbhiaa
set_option linter.unusedSimpArgs false
set_option linter.unusedVariables false
theorem dids_nodup {L : List Kc} (hL : L.Pairwise fun a b => a.id < b.id) (now : Int) : (dids L now).Nodup := by
  unfold dids tdue
  refine List.Nodup.sublist (List.Sublist.map _ List.filter_sublist) ?_
  unfold tmsOf
  refine ((List.mergeSort_perm _ _).map Tm.id).nodup_iff.2 ?_
  rw [List.map_map]
  exact (ids_nodup (List.Pairwise.filter _ hL))
theorem dids_mem {L : List Kc} (hL : L.Pairwise fun a b => a.id < b.id) (now : Int) {k : Kc} (hk : k ∈ L) : k.id ∈ dids L now ↔ k.what = 1 ∧ k.due ≤ now := by
  unfold dids tdue
  simp only [List.mem_map, List.mem_filter, tms_mem, decide_eq_true_eq]
  constructor
  · rintro ⟨x, ⟨⟨y, h1, h2, rfl⟩, h3⟩, h4⟩
    have : y = k := id_uniq hL h1 hk h4
    subst this
    exact ⟨h2, h3⟩
  · rintro ⟨h1, h2⟩
    exact ⟨k.tm, ⟨⟨k, hk, h1, rfl⟩, h2⟩, rfl⟩
theorem dids_len (L : List Kc) (now : Int) : (dids L now).length ≤ (opens L).length := by
  unfold dids tdue
  rw [List.length_map, ← tms_len]
  exact List.length_filter_le _ _
/-- Behind j calls. -/
structure DInv (C : Cs) (now : Int) (j : Nat) : Prop where
  ok : CsOk ⟨C.me, C.next, (dfold C now j).1⟩
  rest : ∀ k ∈ (dfold C now j).1, (k.what = 1 ∧ k.due ≤ now) ↔ k.id ∈ (dids C.L now).drop j
  same : ∀ k : Kc, k.id ∈ (dids C.L now).drop j → (k ∈ (dfold C now j).1 ↔ k ∈ C.L)
theorem dfold_zero (C : Cs) (now : Int) : dfold C now 0 = (C.L, []) := rfl
theorem dfold_succ {C : Cs} {now : Int} {j : Nat} {id : Int} (h : (dids C.L now)[j]? = some id) : dfold C now (j + 1) = dstep C.me now (dfold C now j) id := by
  obtain ⟨hj, rfl⟩ := List.getElem?_eq_some_iff.1 h
  unfold dfold
  rw [List.take_succ_eq_append_getElem hj, List.foldl_append]
  rfl
theorem DInv.start {C : Cs} (h : CsOk C) (now : Int) : DInv C now 0 :=
  ⟨h, fun k hk => (dids_mem h.sorted now hk).symm, fun k _ => .rfl⟩
/-- The next call. -/
theorem DInv.next {C : Cs} {now : Int} {j : Nat} {id : Int} (h : DInv C now j) (h0 : CsOk C) (hj : (dids C.L now)[j]? = some id) :
    ∃ k, kfind id (dfold C now j).1 = some k ∧ k ∈ C.L ∧ k.id = id ∧ k.what = 1 ∧ k.due ≤ now ∧ k.sent ≤ 8 ∧ (dids C.L now).drop j = id :: (dids C.L now).drop (j + 1) ∧ id ∉ (dids C.L now).drop (j + 1) := by
  obtain ⟨hlt, e⟩ := List.getElem?_eq_some_iff.1 hj
  have hd : (dids C.L now).drop j = id :: (dids C.L now).drop (j + 1) := by rw [List.drop_eq_getElem_cons hlt, e]
  have hn := (List.Nodup.sublist (List.drop_sublist j _) (dids_nodup h0.sorted now))
  rw [hd, List.nodup_cons] at hn
  have hmem : id ∈ dids C.L now := List.mem_of_getElem? hj
  obtain ⟨k, hk, hid⟩ : ∃ k ∈ C.L, k.id = id := by
    unfold dids tdue at hmem
    simp only [List.mem_map, List.mem_filter, tms_mem] at hmem
    obtain ⟨x, ⟨⟨y, h1, h2, rfl⟩, h3⟩, h4⟩ := hmem
    exact ⟨y, h1, h4⟩
  have hkd : k.id ∈ (dids C.L now).drop j := by rw [hd, hid]; exact List.mem_cons_self ..
  have hkL := (h.same k hkd).2 hk
  obtain ⟨hw, hdue⟩ := (h.rest k hkL).2 hkd
  exact ⟨k, kfind_of h.ok.sorted hkL hid, hk, hid, hw, hdue, h0.sent k hk, hd, hn.1⟩
theorem DInv.step {C : Cs} {now : Int} {j : Nat} {id : Int} (h : DInv C now j) (h0 : CsOk C) (hj : (dids C.L now)[j]? = some id) : DInv C now (j + 1) := by
  obtain ⟨k, hf, hk, hid, hw, hdue, hsent, hd, hn⟩ := h.next h0 hj
  have hsort := h.ok.sorted
  have hgen : ∀ f : Kc → Kc, (∀ x, (f x).id = x.id) → (∀ x, (f x).what = 1 → x.what = 1) → (∀ x ∈ (dfold C now j).1, x.id = id → (f x).sent ≤ 8) → (∀ x ∈ (dfold C now j).1, x.id = id → (f x).what = 1 → (f x).answer = ByteArray.empty) → (∀ x ∈ (dfold C now j).1, x.id = id → (f x).what ≠ 0) → (¬ ((f k).what = 1 ∧ (f k).due ≤ now)) →
      CsOk ⟨C.me, C.next, kset id f (dfold C now j).1⟩ ∧ (∀ x ∈ kset id f (dfold C now j).1, (x.what = 1 ∧ x.due ≤ now) ↔ x.id ∈ (dids C.L now).drop (j + 1)) ∧ ∀ x : Kc, x.id ∈ (dids C.L now).drop (j + 1) → (x ∈ kset id f (dfold C now j).1 ↔ x ∈ C.L) := by
    intro f f1 f2 f3 f4 f6 f5
    refine ⟨kset_ok h.ok f1 f2 f3 f4 f6, ?_, ?_⟩
    · intro x hx
      rcases (kset_mem x).1 hx with ⟨h1, h2⟩ | ⟨y, h1, h2, rfl⟩
      · rw [h.rest x h1, hd]; simp [h2]
      · have : y = k := id_uniq hsort h1 (kfind_some hf).1 (h2.trans (kfind_some hf).2.symm)
        subst this
        rw [f1, h2]
        exact ⟨fun e => (f5 e).elim, fun e => (hn e).elim⟩
    · intro x hx
      have hxid : x.id ≠ id := fun e => hn (e ▸ hx)
      have := h.same x (by rw [hd]; exact List.mem_cons_of_mem _ hx)
      rw [← this, kset_mem]
      constructor
      · rintro (⟨h1, _⟩ | ⟨y, _, h2, rfl⟩)
        · exact h1
        · exact (hxid ((f1 y).trans h2)).elim
      · exact fun h1 => .inl ⟨h1, hxid⟩
  have hst : dfold C now (j + 1) = if 8 ≤ k.sent then (kset id Kc.giveUp (dfold C now j).1, (dfold C now j).2) else (kset id (Kc.again now) (dfold C now j).1, (dfold C now j).2 ++ [k.msg C.me]) := by
    rw [dfold_succ hj]; unfold dstep; rw [hf]
  have hw8 := waitOf_bd k.sent
  by_cases h8 : 8 ≤ k.sent
  · rw [if_pos h8] at hst
    obtain ⟨g1, g2, g3⟩ := hgen Kc.giveUp (fun _ => rfl) (fun x e => by simp [Kc.giveUp] at e) (fun x hx _ => h.ok.sent x hx) (fun x _ _ e => by simp [Kc.giveUp] at e) (fun x _ _ => by simp [Kc.giveUp]) (by simp [Kc.giveUp])
    exact ⟨by rw [hst]; exact g1, by rw [hst]; exact g2, by rw [hst]; exact g3⟩
  · rw [if_neg h8] at hst
    obtain ⟨g1, g2, g3⟩ := hgen (Kc.again now) (fun _ => rfl) (fun x e => e) (fun x hx e => by
        have : x = k := id_uniq hsort hx (kfind_some hf).1 (e.trans (kfind_some hf).2.symm)
        subst this; simp [Kc.again]; omega) (fun x hx e e1 => h.ok.blank x hx e1) (fun x hx _ => h.ok.known x hx) (by simp [Kc.again]; omega)
    exact ⟨by rw [hst]; exact g1, by rw [hst]; exact g2, by rw [hst]; exact g3⟩
theorem DInv.all {C : Cs} (h : CsOk C) (now : Int) : ∀ j, j ≤ (dids C.L now).length → DInv C now j
  | 0, _ => .start h now
  | j + 1, hj => by
    obtain ⟨id, hid⟩ : ∃ id, (dids C.L now)[j]? = some id := ⟨_, List.getElem?_eq_getElem (by omega)⟩
    exact (DInv.all h now j (by omega)).step h hid
theorem cdue_ok {C : Cs} (h : CsOk C) (now : Int) : CsOk (cdue C now).1 := by
  unfold cdue
  split
  · exact (DInv.all h now _ (Nat.le_refl _)).ok
  · exact h
/-- The timers behind j calls. -/
def DTm (C : Cs) (now : Int) (j : Nat) (S : List Tm) : Prop := ∀ x, x ∈ S ↔ ∃ k ∈ (dfold C now j).1, k.what = 1 ∧ k.tm = x ∧ k.id ∉ (dids C.L now).drop j
theorem DTm.start {C : Cs} (h : CsOk C) (now : Int) : DTm C now 0 (trest (tmsOf C.L) now) := by
  intro x
  unfold trest
  rw [List.mem_filter, tms_mem]
  constructor
  · rintro ⟨⟨k, h1, h2, rfl⟩, h3⟩
    refine ⟨k, h1, h2, rfl, fun e => ?_⟩
    have := ((dids_mem h.sorted now h1).1 e).2
    have h3' : now < k.due := of_decide_eq_true h3
    omega
  · rintro ⟨k, h1, h2, rfl, h3⟩
    refine ⟨⟨k, h1, h2, rfl⟩, ?_⟩
    have : ¬ k.due ≤ now := fun e => h3 ((dids_mem h.sorted now h1).2 ⟨h2, e⟩)
    show decide (now < k.due) = true
    exact decide_eq_true (by omega)
theorem DTm.over {C : Cs} (h : CsOk C) {now : Int} {S : List Tm} (hs : S.Pairwise Tm.lt) (hd : DTm C now (dids C.L now).length S) : S = tmsOf (dfold C now (dids C.L now).length).1 :=
  tms_uniq (DInv.all h now _ (Nat.le_refl _)).ok.sorted hs fun x => by rw [hd x]; simp
theorem DTm.giveUp {C : Cs} (h : CsOk C) {now : Int} {j : Nat} {id : Int} {S : List Tm} (hj : (dids C.L now)[j]? = some id) {k : Kc} (hf : kfind id (dfold C now j).1 = some k) (h8 : 8 ≤ k.sent) (hd : DTm C now j S) : DTm C now (j + 1) S := by
  have hjl := (List.getElem?_eq_some_iff.1 hj).1
  have hI := DInv.all h now j (by omega)
  obtain ⟨k', hf', hk, hid, hw, hdue, hsent, hdr, hn⟩ := hI.next h hj
  rw [hf] at hf'; cases hf'
  intro x
  rw [hd x, dfold_succ hj]
  unfold dstep
  rw [hf]
  dsimp only
  rw [if_pos h8]
  constructor
  · rintro ⟨y, h1, h2, h3, h4⟩
    have hne : y.id ≠ id := fun e => h4 (by rw [hdr, e]; exact List.mem_cons_self ..)
    exact ⟨y, (kset_mem y).2 (.inl ⟨h1, hne⟩), h2, h3, fun e => h4 (by rw [hdr]; exact List.mem_cons_of_mem _ e)⟩
  · rintro ⟨y, h1, h2, h3, h4⟩
    rcases (kset_mem y).1 h1 with ⟨h5, h6⟩ | ⟨z, _, _, rfl⟩
    · refine ⟨y, h5, h2, h3, ?_⟩
      rw [hdr]
      intro e
      rcases List.mem_cons.1 e with e | e
      · exact h6 e
      · exact h4 e
    · simp [Kc.giveUp] at h2
theorem DTm.again {C : Cs} (h : CsOk C) {now : Int} (hm : momentB now = true) {j : Nat} {id : Int} {S : List Tm} (hj : (dids C.L now)[j]? = some id) {k : Kc} (hf : kfind id (dfold C now j).1 = some k) (h8 : ¬ 8 ≤ k.sent) (hS : TmOk S) (hd : DTm C now j S) :
    (tset S id (now + waitOf k.sent)).2 = 0 ∧ DTm C now (j + 1) (tset S id (now + waitOf k.sent)).1 := by
  have hjl := (List.getElem?_eq_some_iff.1 hj).1
  have hI := DInv.all h now j (by omega)
  obtain ⟨k', hf', hk, hid, hw, hdue, hsent, hdr, hn⟩ := hI.next h hj
  rw [hf] at hf'; cases hf'
  obtain ⟨m1, m2⟩ := moment_bd hm
  have hwt := waitOf_bd k.sent
  have hids := h.ids k hk
  have hout : tout id S = S := tout_none fun x hx e => by
    obtain ⟨y, h1, h2, rfl, h4⟩ := (hd x).1 hx
    exact h4 (by rw [hdr]; unfold Kc.tm at e; dsimp at e; rw [e]; exact List.mem_cons_self ..)
  have hroom : ¬ 64 ≤ S.length := by
    have hsub : (id :: S.map Tm.id).length ≤ ((opens (dfold C now j).1).map Kc.id).length := by
      refine List.Nodup.length_le_of_subset ?_ ?_
      · rw [List.nodup_cons]
        refine ⟨fun e => ?_, hS.ids⟩
        obtain ⟨x, hx, e⟩ := List.mem_map.1 e
        obtain ⟨y, h1, h2, rfl, h4⟩ := (hd x).1 hx
        exact h4 (by rw [hdr]; unfold Kc.tm at e; dsimp at e; rw [e]; exact List.mem_cons_self ..)
      · intro a ha
        rcases List.mem_cons.1 ha with rfl | ha
        · exact List.mem_map.2 ⟨k, List.mem_filter.2 ⟨(kfind_some hf).1, by simpa using hw⟩, hid⟩
        · obtain ⟨x, hx, rfl⟩ := List.mem_map.1 ha
          obtain ⟨y, h1, h2, rfl, h4⟩ := (hd x).1 hx
          exact List.mem_map.2 ⟨y, List.mem_filter.2 ⟨h1, by simpa using h2⟩, rfl⟩
    have h3 := hI.ok.few
    dsimp only at h3
    simp at hsub; omega
  have htm : tset S id (now + waitOf k.sent) = (tins ⟨id, now + waitOf k.sent⟩ S, 0) := by
    unfold tset
    rw [if_neg (by omega), hout, if_neg hroom]
  rw [htm]
  refine ⟨rfl, fun x => ?_⟩
  dsimp only
  rw [tins_mem, hd x, dfold_succ hj]
  unfold dstep
  rw [hf]
  dsimp only
  rw [if_neg h8]
  constructor
  · rintro (rfl | ⟨y, h1, h2, h3, h4⟩)
    · exact ⟨Kc.again now k, (kset_mem _).2 (.inr ⟨k, (kfind_some hf).1, hid, rfl⟩), hw, by simp [Kc.again, Kc.tm, hid], by show k.id ∉ _; rw [hid]; exact hn⟩
    · have hne : y.id ≠ id := fun e => h4 (by rw [hdr, e]; exact List.mem_cons_self ..)
      exact ⟨y, (kset_mem y).2 (.inl ⟨h1, hne⟩), h2, h3, fun e => h4 (by rw [hdr]; exact List.mem_cons_of_mem _ e)⟩
  · rintro ⟨y, h1, h2, h3, h4⟩
    rcases (kset_mem y).1 h1 with ⟨h5, h6⟩ | ⟨z, h5, h6, rfl⟩
    · refine .inr ⟨y, h5, h2, h3, ?_⟩
      rw [hdr]
      intro e
      rcases List.mem_cons.1 e with e | e
      · exact h6 e
      · exact h4 e
    · have : z = k := id_uniq hI.ok.sorted h5 (kfind_some hf).1 (h6.trans (kfind_some hf).2.symm)
      subst this
      exact .inl (by rw [← h3]; simp [Kc.again, Kc.tm, hid])
end Go.Proofs.Ytllfehahjkbhiaa
