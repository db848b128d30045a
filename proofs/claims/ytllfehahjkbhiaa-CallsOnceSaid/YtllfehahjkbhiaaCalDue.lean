/- Calls in memory: Due, what is sent. -/
import Derived.Test.YtllfehahjkbhiaaCalCall
import Derived.Test.YtllfehahjkbhiaaInts
import Derived.IntWalk
import Derived.Deep.AppendLies
import Derived.RegionTactic
import Derived.BigRegion
import Derived.Outline
namespace Go.Proofs.Ytllfehahjkbhiaa
open Go.RowKit Go.Lib
set_option linter.unusedSimpArgs false
set_option linter.unusedVariables false
theorem pset_block {w' : World} {P : List (Kc × Nat)} {id : Int} {f : Kc → Kc} {p : Kc × Nat} {T : TypeId} (hsort : (P.map Prod.fst).Pairwise fun a b => a.id < b.id) (hn : (P.map Prod.snd).Nodup) (hpf : pfind id P = some p)
    (hk : ∀ q ∈ P, q.2 ≠ p.2 → w'.heap[q.2]? = some (.cells q.1.cells T (0, 0))) (hp : w'.heap[p.2]? = some (.cells (f p.1).cells T (0, 0))) : ∀ q ∈ pset id f P, w'.heap[q.2]? = some (.cells q.1.cells T (0, 0)) := by
  intro q hq
  obtain ⟨q0, hq0, rfl⟩ := List.mem_map.1 hq
  obtain ⟨hpm, hpid⟩ := pfind_some hpf
  by_cases e : q0.1.id = id
  · rw [if_pos e]
    have h1 : q0.1 = p.1 := id_uniq hsort (List.mem_map.2 ⟨q0, hq0, rfl⟩) (List.mem_map.2 ⟨p, hpm, rfl⟩) (e.trans hpid.symm)
    have h2 : q0 = p := by
      obtain ⟨i, hi⟩ := List.getElem?_of_mem hq0
      obtain ⟨j, hj⟩ := List.getElem?_of_mem hpm
      have a1 : ((P.map Prod.fst).map Kc.id)[i]? = some p.1.id := by simp [hi, h1]
      have a2 : ((P.map Prod.fst).map Kc.id)[j]? = some p.1.id := by simp [hj]
      have hij := (List.getElem?_inj (List.getElem?_eq_some_iff.1 a1).1 (ids_nodup hsort)).1 (a1.trans a2.symm)
      subst hij
      rw [hi] at hj; exact Option.some.inj hj
    subst h2; exact hp
  · rw [if_neg e]
    refine hk q0 hq0 fun e2 => e ?_
    obtain ⟨i, hi⟩ := List.getElem?_of_mem hq0
    obtain ⟨j, hj⟩ := List.getElem?_of_mem hpm
    have a1 : (P.map Prod.snd)[i]? = some p.2 := by simp [hi, e2]
    have a2 : (P.map Prod.snd)[j]? = some p.2 := by simp [hj]
    have hij := (List.getElem?_inj (List.getElem?_eq_some_iff.1 a1).1 hn).1 (a1.trans a2.symm)
    subst hij
    rw [hi] at hj
    rw [Option.some.inj hj, hpid]
theorem mflat_len (l : List Mg) : (l.flatMap Mg.cells).length = l.length * 5 := by
  induction l with
  | nil => rfl
  | cons m r ih => simp [List.flatMap_cons, Mg.cells, ih]; omega
theorem info_msg : (Try.prog.info? 32).map (fun i => (i.zero, i.size, i.bytes)) = some (some (.agg #[.int .i64 0, .int .i64 0, .int .i64 0, .int .i64 0, .string ByteArray.empty]), 5, 48) := by kernel_rfl
theorem mg_one (m : Mg) : ∀ u ∈ m.cells, u.oneCell' = true := by intro u hu; simp [Mg.cells] at hu; rcases hu with rfl | rfl | rfl | rfl | rfl <;> rfl
theorem mg_new {w : World} {N : Nat} (hN : N = w.heap.size) (m : Mg) (E : TypeId) : ∀ (j : Nat) (u : Value), m.cells[j]? = some u → (w.alloc (.cells #[.int .i64 m.kind, .int .i64 m.from_, .int .i64 m.to, .int .i64 m.id, .string m.body] E)).cell? ((⟨N, 0, none⟩ : Addr).add j) = some u := by
  intro j u hu
  have h := cell_at (o := j) (heap_alloc_at (o := .cells #[.int .i64 m.kind, .int .i64 m.from_, .int .i64 m.to, .int .i64 m.id, .string m.body] E (0, 0)) hN) (v := u) (by simpa [Mg.cells] using hu)
  cases j with
  | zero => simpa [Addr.add] using h
  | succ j => simpa [Addr.add] using h
/-- Behind j calls that are due. -/
structure DueAt (w : World) (c bm t : Nat) (Ft0 Q : List Nat) (es : Array MapEntry) (ck : Nat) (C : Cs) (now : Int) (za : Option Addr) (j : Nat) (v : Value) (wr : World) (Ft : List Nat) (P : List (Kc × Nat)) (S : List Tm) : Prop where
  hc : wr.heap[c]? = some (.cells #[.int .i64 C.me, .int .i64 C.next, .map (some bm), .pointer (some ⟨t, 0, none⟩)] 65 (0, 0))
  hb : wr.heap[bm]? = some (.map es ck)
  hM : MapOf es ck (pent P)
  hP : P.map Prod.fst = (dfold C now j).1
  hk : ∀ p ∈ P, wr.heap[p.2]? = some (.cells p.1.cells 73 (0, 0))
  hQ : P.map Prod.snd = Q
  hT : TimAt wr t Ft S
  hD : DTm C now j S
  h1 : bm ∉ Ft
  h2 : c ∉ Ft
  h3 : ∀ b ∈ Q, b ∉ Ft
  hF : ∀ b ∈ Ft, b ∈ Ft0 ∨ w.heap.size ≤ b
  hv : wr.ownsRow w.heap.size 32 5 v (dfold C now j).2.length ((dfold C now j).2.flatMap Mg.cells)
  hvF : ∀ g, v.ownBlock = some g → g ∉ Ft
  hz : IntsAt wr za (dids C.L now)
  hzF : ∀ b o, za = some ⟨b, o, none⟩ → w.heap.size ≤ b ∧ b ∉ Ft ∧ v.ownBlock ≠ some b
  hO : Only (c :: bm :: (Q ++ Ft0)) w wr
theorem calDue_nil (now : Int) (w : World) : Calls Try.prog 15 #[.pointer none, .int .i64 now] w fun e w' => e = .returned (.slice none 0 0) ∧ w = w' := by
  go_enter Try.func15, Try.ntmps15
  go_wp2_with fail
  go_ret
  exact ⟨rfl, rfl⟩
theorem dfold_len (C : Cs) (now : Int) : ∀ j, (dfold C now j).2.length ≤ j
  | 0 => by simp [dfold]
  | j + 1 => by
    have ih := dfold_len C now j
    cases h : (dids C.L now)[j]? with
    | none =>
      have hl := List.getElem?_eq_none_iff.1 h
      have : dfold C now (j + 1) = dfold C now j := by
        unfold dfold
        rw [List.take_of_length_le hl, List.take_of_length_le (by omega)]
      rw [this]; omega
    | some id =>
      rw [dfold_succ h]
      unfold dstep
      split
      · omega
      · split
        · dsimp only; omega
        · dsimp only; rw [List.length_append]; simp; omega
section
variable {w wr : World} {c bm t : Nat} {Ft0 Q : List Nat} {es : Array MapEntry} {ck : Nat} {C : Cs} {now : Int} {za : Option Addr} {j : Nat} {v : Value} {Ft : List Nat} {P : List (Kc × Nat)} {S : List Tm}
theorem DueAt.ne (h : DueAt w c bm t Ft0 Q es ck C now za j v wr Ft P S) {p : Kc × Nat} (hp : p ∈ P) : p.2 ≠ c ∧ p.2 ≠ bm := by
  have h1 := h.hk p hp
  refine ⟨fun e => ?_, fun e => ?_⟩
  · rw [e, h.hc] at h1; simp [Kc.cells] at h1
  · rw [e, h.hb] at h1; simp at h1
theorem DueAt.sort (h : DueAt w c bm t Ft0 Q es ck C now za j v wr Ft P S) (hok : CsOk C) (hj : j ≤ (dids C.L now).length) : (P.map Prod.fst).Pairwise fun a b => a.id < b.id := by
  rw [h.hP]; exact (DInv.all hok now j hj).ok.sorted
theorem due_giveUp (h : DueAt w c bm t Ft0 Q es ck C now za j v wr Ft P S) (hok : CsOk C) (hn : Q.Nodup) (hQ : ∀ b ∈ Q, b < w.heap.size) (hj : j < (dids C.L now).length) {id : Int} (hid : (dids C.L now)[j]? = some id) {p : Kc × Nat} (hpf : pfind id P = some p) (hf : kfind id (dfold C now j).1 = some p.1) (h8 : 8 ≤ p.1.sent) :
    DueAt w c bm t Ft0 Q es ck C now za (j + 1) v (wr.setCell ⟨p.2, 4, none⟩ (.int .i64 3)) Ft (pset id Kc.giveUp P) S := by
  obtain ⟨hpm, hpid⟩ := pfind_some hpf
  obtain ⟨n1, n2⟩ := h.ne hpm
  have hpQ : p.2 ∈ Q := by rw [← h.hQ]; exact List.mem_map.2 ⟨p, hpm, rfl⟩
  have hlt := hQ p.2 hpQ
  have hO : Only [p.2] wr (wr.setCell ⟨p.2, 4, none⟩ (.int .i64 3)) := (Only.refl [p.2] wr).setCell (.inl (by simp)) _
  have hst : dfold C now (j + 1) = (kset id Kc.giveUp (dfold C now j).1, (dfold C now j).2) := by rw [dfold_succ hid]; unfold dstep; rw [hf]; dsimp only; rw [if_pos h8]
  refine ⟨hO.keep h.hc (by simpa using n1.symm), hO.keep h.hb (by simpa using n2.symm), by rw [pset_ent id (f := Kc.giveUp) (fun _ => rfl)]; exact h.hM, by rw [pset_fst, h.hP, hst], pset_block (h.sort hok (by omega)) (by rw [h.hQ]; exact hn) hpf (fun q hq hne => hO.keep (h.hk q hq) (by simpa using hne)) (heap_store (h.hk p hpm)), by rw [pset_snd]; exact h.hQ, h.hT.only hO (fun b hb => by simp; rintro rfl; exact h.h3 p.2 hpQ hb), DTm.giveUp hok hid hf h8 h.hD, h.h1, h.h2, h.h3, h.hF, ?_, h.hvF, ?_, h.hzF, ?_⟩
  · rw [hst]
    refine row_keep h.hv fun g hg => hO.block g (h.hv.lt g hg).2 ?_
    have := (h.hv.lt g hg).1
    simp; omega
  · exact h.hz.only hO (fun b o e => by have := (h.hzF b o e).1; simp; omega)
  · exact h.hO.trans (hO.mono (fun i hi => by simp at hi; subst hi; exact .inl (by simp [hpQ])))
theorem due_over (h : DueAt w c bm t Ft0 Q es ck C now za (dids C.L now).length v wr Ft P S) (hok : CsOk C) (hn : Q.Nodup) (hQ : ∀ b ∈ Q, b < w.heap.size) (hcw : c < w.heap.size) (hbw : bm < w.heap.size) :
    wr.ownsRow w.heap.size 32 5 v (dfold C now (dids C.L now).length).2.length ((dfold C now (dids C.L now).length).2.flatMap Mg.cells) ∧ ∃ F', CalAt wr c F' ⟨C.me, C.next, (dfold C now (dids C.L now).length).1⟩ ∧ Only (c :: bm :: (Q ++ Ft0)) w wr ∧ (∀ b ∈ F', b ∈ c :: bm :: (Q ++ Ft0) ∨ w.heap.size ≤ b) ∧ ∀ g, v.ownBlock = some g → g ∉ F' := by
  have hT := h.hT
  rw [h.hD.over hok h.hT.ok.sorted] at hT
  refine ⟨h.hv, c :: bm :: (P.map Prod.snd ++ Ft), ⟨(DInv.all hok now _ (Nat.le_refl _)).ok, bm, t, Ft, P, es, ck, h.hc, h.hb, h.hM, h.hP, h.hk, by rw [h.hQ]; exact hn, hT, rfl, h.h1, h.h2, fun p hp => h.h3 _ (by rw [← h.hQ]; exact List.mem_map.2 ⟨p, hp, rfl⟩)⟩, h.hO, ?_, ?_⟩
  rotate_left
  · intro g hg hm
    have h5 := (h.hv.lt g hg).1
    rw [h.hQ] at hm
    simp only [List.mem_cons, List.mem_append] at hm
    rcases hm with h6 | h6 | h6 | h6
    · omega
    · omega
    · have := hQ g h6; omega
    · exact h.hvF g hg h6
  intro b hb
  rw [h.hQ] at hb
  simp only [List.mem_cons, List.mem_append] at hb ⊢
  rcases hb with h1 | h1 | h1 | h1
  · exact .inl (.inl h1)
  · exact .inl (.inr (.inl h1))
  · exact .inl (.inr (.inr (.inl h1)))
  · rcases h.hF b h1 with h2 | h2
    · exact .inl (.inr (.inr (.inr h2)))
    · exact .inr h2
theorem due_again (h : DueAt w c bm t Ft0 Q es ck C now za j v wr Ft P S) (hok : CsOk C) (hm : momentB now = true) (hn : Q.Nodup) (hQ : ∀ b ∈ Q, b < w.heap.size) (hcw : c < w.heap.size) (hbw : bm < w.heap.size) (hj : j < (dids C.L now).length) {id : Int} (hid : (dids C.L now)[j]? = some id) {p : Kc × Nat} (hpf : pfind id P = some p) (hf : kfind id (dfold C now j).1 = some p.1) (h8 : ¬ 8 ≤ p.1.sent)
    {w' : World} {Ft2 : List Nat} {n3 g cap : Nat} (hG : Only (p.2 :: (Ft ++ v.ownBlock.toList)) wr w') (hp : w'.heap[p.2]? = some (.cells (Kc.again now p.1).cells 73 (0, 0))) (hT : TimAt w' t Ft2 (tset S id (now + waitOf p.1.sent)).1) (hF2 : ∀ b ∈ Ft2, b ∈ Ft ∨ n3 ≤ b) (hn3 : wr.heap.size ≤ n3) (hg : g < n3)
    (hv2 : w'.ownsRow w.heap.size 32 5 (.slice (some ⟨g, 0, none⟩) ((dfold C now j).2.length + 1) cap) ((dfold C now j).2.length + 1) ((dfold C now j).2.flatMap Mg.cells ++ Mg.cells ⟨1, C.me, p.1.to, id, p.1.body⟩)) (hor : v.ownBlock = some g ∨ wr.heap.size ≤ g) :
    DueAt w c bm t Ft0 Q es ck C now za (j + 1) (.slice (some ⟨g, 0, none⟩) ((dfold C now j).2.length + 1) cap) w' Ft2 (pset id (Kc.again now) P) (tset S id (now + waitOf p.1.sent)).1 := by
  obtain ⟨hpm, hpid⟩ := pfind_some hpf
  obtain ⟨n1, n2⟩ := h.ne hpm
  have hpQ : p.2 ∈ Q := by rw [← h.hQ]; exact List.mem_map.2 ⟨p, hpm, rfl⟩
  have hst : dfold C now (j + 1) = (kset id (Kc.again now) (dfold C now j).1, (dfold C now j).2 ++ [⟨1, C.me, p.1.to, id, p.1.body⟩]) := by
    rw [dfold_succ hid]; unfold dstep; rw [hf]; dsimp only; rw [if_neg h8]; unfold Kc.msg; rw [hpid]
  have hown : ∀ g', v.ownBlock = some g' → w.heap.size ≤ g' := fun g' hg' => (h.hv.lt g' hg').1
  have hnotG : ∀ b, b < w.heap.size → b ≠ p.2 → b ∉ Ft → b ∉ p.2 :: (Ft ++ v.ownBlock.toList) := by
    intro b hb hb1 hb2 hm
    rcases List.mem_cons.1 hm with e | hm
    · exact hb1 e
    rcases List.mem_append.1 hm with hm | hm
    · exact hb2 hm
    · simp at hm; have := hown b hm; omega
  have hws := h.hO.size
  have hnew : ∀ b, b < w.heap.size → b ∉ Ft → b ∉ Ft2 := fun b hb hb2 hm => by
    rcases hF2 b hm with h4 | h4
    · exact hb2 h4
    · omega
  have hgF : g ∉ Ft2 := fun hm => by
    rcases hF2 g hm with h4 | h4
    · rcases hor with h5 | h5
      · exact h.hvF g h5 h4
      · have := h.hT.lt g h4; omega
    · omega
  refine ⟨hG.keep h.hc (hnotG c hcw n1.symm h.h2), hG.keep h.hb (hnotG bm hbw n2.symm h.h1), by rw [pset_ent id (f := Kc.again now) (fun _ => rfl)]; exact h.hM, by rw [pset_fst, h.hP, hst], pset_block (h.sort hok (by omega)) (by rw [h.hQ]; exact hn) hpf (fun q hq hne => ?_) hp, by rw [pset_snd]; exact h.hQ, hT, (DTm.again hok hm hid hf h8 h.hT.ok h.hD).2, hnew bm hbw h.h1, hnew c hcw h.h2, fun b hb => hnew b (hQ b hb) (h.h3 b hb), ?_, ?_, ?_, ?_, ?_, ?_⟩
  · have hqQ : q.2 ∈ Q := by rw [← h.hQ]; exact List.mem_map.2 ⟨q, hq, rfl⟩
    exact hG.keep (h.hk q hq) (hnotG q.2 (hQ _ hqQ) hne (h.h3 _ hqQ))
  · intro b hb
    rcases hF2 b hb with h4 | h4
    · exact h.hF b h4
    · exact .inr (by omega)
  · rw [hst, List.length_append, List.flatMap_append]
    simpa using hv2
  · intro g' hg'
    simp [Value.ownBlock] at hg'
    subst hg'; exact hgF
  · refine h.hz.only hG fun b o e hm => ?_
    obtain ⟨z1, z2, z3⟩ := h.hzF b o e
    rcases List.mem_cons.1 hm with e2 | hm
    · have := hQ _ hpQ; omega
    rcases List.mem_append.1 hm with hm | hm
    · exact z2 hm
    · simp at hm; exact z3 hm
  · intro b o e
    obtain ⟨z1, z2, z3⟩ := h.hzF b o e
    have hzlt : ∃ x, wr.cell? ⟨b, o + j, none⟩ = some x := by
      obtain ⟨b', o', e', hc'⟩ := h.hz j id hid
      rw [e] at e'; cases e'
      exact ⟨_, hc'⟩
    obtain ⟨x, hx⟩ := hzlt
    have hbl := World.block_lt_of_cell? _ _ hx
    dsimp only at hbl
    refine ⟨z1, fun hm => ?_, fun hg' => ?_⟩
    · rcases hF2 b hm with h4 | h4
      · exact z2 h4
      · omega
    · simp [Value.ownBlock] at hg'
      subst hg'
      rcases hor with h5 | h5
      · exact z3 h5
      · omega
  · refine h.hO.call hG fun i hi => ?_
    rcases List.mem_cons.1 hi with e | hi
    · subst e; exact .inl (by simp [hpQ])
    rcases List.mem_append.1 hi with hi | hi
    · rcases h.hF i hi with h4 | h4
      · exact .inl (by simp [h4])
      · exact .inr h4
    · simp at hi; exact .inr (hown i hi)
end
set_option maxHeartbeats 8000000 in
set_option maxRecDepth 100000 in
theorem calDue_at {w : World} {c : Nat} {F : List Nat} {C : Cs} (h : CalAt w c F C) (now : Int) :
    Calls Try.prog 15 #[.pointer (some ⟨c, 0, none⟩), .int .i64 now] w fun e w' => ∃ v, e = .returned v ∧ w'.ownsRow w.heap.size 32 5 v (cdue C now).2.length ((cdue C now).2.flatMap Mg.cells) ∧ ∃ F', CalAt w' c F' (cdue C now).1 ∧ Only F w w' ∧ (∀ b ∈ F', b ∈ F ∨ w.heap.size ≤ b) ∧ ∀ g, v.ownBlock = some g → g ∉ F' := by
  cases hm : momentB now with
  | false =>
    have hcd : cdue C now = (C, []) := by unfold cdue; rw [if_neg (by rw [hm]; simp)]
    rw [hcd]
    have HM := Lib.hid hm
    have HA := Lib.hid h
    clear hm hcd h
    go_enter Try.func15, Try.ntmps15
    go_wp2_with fail
    refine (calMoment_at _ _).mono ?_
    rintro e w1 ⟨rfl, rfl⟩
    rw [HM.out]
    go_wp2_with fail
    go_ret
    exact ⟨_, rfl, World.ownsRow_nil _ _ _ _, F, HA.out, Only.refl _ _, fun b hb => .inl hb, by simp [Value.ownBlock]⟩
  | true =>
    have hcd : cdue C now = (⟨C.me, C.next, (dfold C now (dids C.L now).length).1⟩, (dfold C now (dids C.L now).length).2) := by unfold cdue; rw [if_pos hm]
    rw [hcd]
    obtain ⟨i3, hi3, hz3, hs3, hb3⟩ := info_parts info_msg
    have hok := h.ok
    obtain ⟨mo1, mo2⟩ := moment_bd hm
    obtain ⟨bm, t, Ft, P, es, ck, hc, hb, hM, hP, hk, hn, hT, rfl, h1, h2, h3⟩ := h.obj
    have c3 : w.cell? ⟨c, 3, none⟩ = some (.pointer (some ⟨t, 0, none⟩)) := cell_at hc rfl
    have hdl := dids_len C.L now
    have hfew := hok.few
    have HM := Lib.hid hm
    have HOK := Lib.hid hok
    have HC := Lib.hid hc
    have HB := Lib.hid hb
    have HMM := Lib.hid hM
    have HP := Lib.hid hP
    have HK := Lib.hid hk
    have HN := Lib.hid hn
    have HT := Lib.hid hT
    have H1 := Lib.hid h1
    have H2 := Lib.hid h2
    have H3 := Lib.hid h3
    clear hm hcd h hok hc hb hM hP hk hn hT h1 h2 h3
    go_enter Try.func15, Try.ntmps15
    go_wp2_with fail
    refine (calMoment_at _ _).mono ?_
    rintro e w1 ⟨rfl, rfl⟩
    rw [HM.out]
    go_wp2_with fail
    refine (timDue_at HT.out now).mono ?_
    rintro e w2 ⟨vz, rfl, hvz, hT2, hO2⟩
    have hgz : (tdue (tmsOf C.L) now).map Tm.id = dids C.L now := rfl
    rw [hgz] at hvz
    obtain ⟨za, zc, rfl, hZ2, hzb⟩ := ints_own hvz
    have hstart : DueAt w c bm t Ft (P.map Prod.snd) es ck C now za 0 (.slice none 0 0) w2 Ft P (trest (tmsOf C.L) now) := by
      refine ⟨hO2.keep HC.out H2.out, hO2.keep HB.out H1.out, HMM.out, HP.out, fun p hp => hO2.keep (HK.out p hp) (H3.out p hp), rfl, hT2, DTm.start HOK.out now, H1.out, H2.out, ?_, fun b hb => .inl hb, World.ownsRow_nil _ _ _ _, by simp [Value.ownBlock], hZ2, ?_, hO2.mono (fun i hi => .inl (by simp [hi]))⟩
      · intro b hb
        obtain ⟨p, hp, rfl⟩ := List.mem_map.1 hb
        exact H3.out p hp
      · intro b o e
        refine ⟨hzb b o e, fun hm => ?_, by simp [Value.ownBlock]⟩
        have := hzb b o e
        have := HT.out.lt b hm
        omega
    have HST := Lib.hid hstart
    clear hvz hT2 hO2 hgz hZ2 hzb hstart c3
    go_wp2_with fail
    generalize hnn : (dids C.L now).length = n at *
    have HNN := Lib.hid hnn
    clear hnn
    go_loopw [5, 23] (fun v x wx => ∃ (j : Nat) (Ft' : List Nat) (P' : List (Kc × Nat)) (S : List Tm), j ≤ n ∧ x = .int .i64 j ∧ DueAt w c bm t Ft (P.map Prod.snd) es ck C now za j v wx Ft' P' S) (fun _ x _ => n - (intOf x).toNat)
    case atStart => exact ⟨0, Ft, P, _, Nat.zero_le _, rfl, HST.out⟩
    case round =>
      obtain ⟨j, Ft', P', S, hj, rfl, hD⟩ := hrel
      have HD := Lib.hid hD
      clear hD
      by_cases hjn : j < n
      · have hjn' : (j : Int) < n := by omega
        obtain ⟨id, hid⟩ : ∃ id, (dids C.L now)[j]? = some id := ⟨_, List.getElem?_eq_getElem (by have := HNN.out; omega)⟩
        have hI := DInv.all HOK.out now j (by have := HNN.out; omega)
        obtain ⟨k, hf, hkL, hkid, hkw, hkd, hks, _, _⟩ := hI.next HOK.out hid
        obtain ⟨zb, zo, rfl, z0⟩ := HD.out.hz j id hid
        obtain ⟨p, hpf, hpk⟩ : ∃ p, pfind id P' = some p ∧ p.1 = k := by
          have := pfind_fst id P'
          rw [HD.out.hP, hf] at this
          cases hh : pfind id P' with
          | none => rw [hh] at this; simp at this
          | some p => rw [hh] at this; exact ⟨p, rfl, by simpa using this.symm⟩
        subst hpk
        obtain ⟨hpm, hpid⟩ := pfind_some hpf
        have hgl := pent_get id P'
        rw [hpf] at hgl
        have hrun := run_mlookup_some (P := Try.prog) (c := false) Try.underlying61 Try.underlying3 HD.out.hb HD.out.hM hgl
        rw [if_neg (by simp)] at hrun
        have c2 : wr.cell? ⟨c, 2, none⟩ = some (.map (some bm)) := cell_at HD.out.hc rfl
        have hpc := HD.out.hk p hpm
        have d1 : wr.cell? ⟨p.2, 1, none⟩ = some (.int .i64 p.1.sent) := cell_at hpc rfl
        have d4 : wr.cell? ⟨p.2, 4, none⟩ = some (.int .i64 p.1.what) := cell_at hpc rfl
        have f4 : wr.frozen? ⟨p.2, 4, none⟩ = false := frozen_at hpc
        have d0 : wr.cell? ⟨p.2, 0, none⟩ = some (.int .i64 p.1.to) := cell_at hpc rfl
        have d2 : wr.cell? ⟨p.2, 2, none⟩ = some (.int .i64 (waitOf p.1.sent)) := cell_at hpc rfl
        have d3 : wr.cell? ⟨p.2, 3, none⟩ = some (.string p.1.body) := cell_at hpc rfl
        have c0 : wr.cell? ⟨c, 0, none⟩ = some (.int .i64 C.me) := cell_at HD.out.hc rfl
        have c3 : wr.cell? ⟨c, 3, none⟩ = some (.pointer (some ⟨t, 0, none⟩)) := cell_at HD.out.hc rfl
        have HPC := Lib.hid hpc
        have HID := Lib.hid hid
        have HPF := Lib.hid hpf
        have HF := Lib.hid hf
        have HPM := Lib.hid hpm
        have HPI := Lib.hid hpid
        clear hid hI hf hkL hkid hkw hkd hpf hpm hpid hgl hpc
        by_cases h8 : 8 ≤ p.1.sent
        · have e8 : decide (8 ≤ (p.1.sent : Int)) = true := decide_eq_true (by omega)
          go_wp2_with fail
          have hQl : ∀ b ∈ P.map Prod.snd, b < w.heap.size := fun b hb => by
            obtain ⟨q, hq, rfl⟩ := List.mem_map.1 hb
            exact lt_of_heap (HK.out q hq)
          have hs := due_giveUp HD.out HOK.out HN.out hQl (by rw [HNN.out]; exact hjn) HID.out HPF.out HF.out h8
          go_roundw
          case rel => exact ⟨j + 1, Ft', _, S, by omega, by go_num, hs⟩
          case measure => simp [intOf]; omega
        · have e8 : decide (8 ≤ (p.1.sent : Int)) = false := decide_eq_false (by omega)
          have hwt := waitOf_bd p.1.sent
          have hlen := dfold_len C now j
          have hvlt := HD.out.hv.lt
          have hOB : Only [] wr (wr.drew.alloc (.cells #[.int .i64 1, .int .i64 C.me, .int .i64 p.1.to, .int .i64 id, .string p.1.body] 32)) := (Only.refl [] wr).drew.alloc _
          have r0 := hOB.cell d0 (by simp)
          have r3 := hOB.cell d3 (by simp)
          have s0 := hOB.cell c0 (by simp)
          have hnews := mg_new (w := wr.drew) (N := wr.heap.size) rfl ⟨1, C.me, p.1.to, id, p.1.body⟩ 32
          have hown2 : (wr.drew.alloc (.cells #[.int .i64 1, .int .i64 C.me, .int .i64 p.1.to, .int .i64 id, .string p.1.body] 32)).ownsRow w.heap.size 32 5 u5 (dfold C now j).2.length ((dfold C now j).2.flatMap Mg.cells) := HD.out.hv.drew.alloc _
          have hbase : w.heap.size ≤ wr.heap.size := HD.out.hO.size
          have HNEW := Lib.hid hnews
          have HOWN := Lib.hid hown2
          have HOB := Lib.hid hOB
          clear hnews hown2 hOB
          have hl1 : (dfold C now j).2.length + 1 ≤ maxLen := by unfold maxLen; omega
          have hl2 : ((dfold C now j).2.length + 1) * 48 ≤ 140737488355328 := by omega
          go_wp2_with fail
          refine reg_begin 18 (S := fun w' => w'.cell? ⟨c, 0, none⟩ = some (.int .i64 C.me) ∧ (w'.cell? ⟨p.2, 0, none⟩ = some (.int .i64 p.1.to) ∧ w'.cell? ⟨p.2, 3, none⟩ = some (.string p.1.body))) (by rfl) (by kernel_rfl) ⟨c0, ⟨d0, d3⟩⟩ (fun hHeld => ?_)
          refine next_on 0 (by simp only [List.getElem?_toArray, List.getElem?_cons_succ, List.getElem?_cons_zero]; exact rfl) (by kernel_rfl) (by kernel_rfl) (by kernel_rfl) (by rfl) (fun _ _ _ h => h) hHeld (by intro w hSw; (try dsimp only at hSw); go_simp; (try with_reducible rfl)) ?_; (try simp only [Act.put, List.setIfInBounds_toArray, List.set_cons_zero, List.set_cons_succ])
          refine next_on 1 (by simp only [List.getElem?_toArray, List.getElem?_cons_succ, List.getElem?_cons_zero]; exact rfl) (by kernel_rfl) (by kernel_rfl) (by kernel_rfl) (by rfl) (fun _ _ _ h => h) hHeld (by intro w hSw; (try dsimp only at hSw); go_simp; (try with_reducible rfl)) ?_; (try simp only [Act.put, List.setIfInBounds_toArray, List.set_cons_zero, List.set_cons_succ])
          refine next_on 2 (by simp only [List.getElem?_toArray, List.getElem?_cons_succ, List.getElem?_cons_zero]; exact rfl) (by kernel_rfl) (by kernel_rfl) (by kernel_rfl) (by rfl) (fun _ _ _ h => h) hHeld (by intro w hSw; (try dsimp only at hSw); go_simp; (try with_reducible rfl)) ?_; (try simp only [Act.put, List.setIfInBounds_toArray, List.set_cons_zero, List.set_cons_succ])
          refine next_on 3 (by simp only [List.getElem?_toArray, List.getElem?_cons_succ, List.getElem?_cons_zero]; exact rfl) (by kernel_rfl) (by kernel_rfl) (by kernel_rfl) (by rfl) (fun _ _ _ h => h) hHeld (by intro w hSw; (try dsimp only at hSw); go_simp; (try with_reducible rfl)) ?_; (try simp only [Act.put, List.setIfInBounds_toArray, List.set_cons_zero, List.set_cons_succ])
          refine next_on 4 (by simp only [List.getElem?_toArray, List.getElem?_cons_succ, List.getElem?_cons_zero]; exact rfl) (by kernel_rfl) (by kernel_rfl) (by kernel_rfl) (by rfl) (fun _ _ _ h => h) hHeld (by intro w hSw; (try dsimp only at hSw); go_simp; (try with_reducible rfl)) ?_; (try simp only [Act.put, List.setIfInBounds_toArray, List.set_cons_zero, List.set_cons_succ])
          refine next_on 5 (by simp only [List.getElem?_toArray, List.getElem?_cons_succ, List.getElem?_cons_zero]; exact rfl) (by kernel_rfl) (by kernel_rfl) (by kernel_rfl) (by rfl) (fun _ _ _ h => h) hHeld (by intro w hSw; (try dsimp only at hSw); go_simp; (try with_reducible rfl)) ?_; (try simp only [Act.put, List.setIfInBounds_toArray, List.set_cons_zero, List.set_cons_succ])
          refine next_on 6 (by simp only [List.getElem?_toArray, List.getElem?_cons_succ, List.getElem?_cons_zero]; exact rfl) (by kernel_rfl) (by kernel_rfl) (by kernel_rfl) (by rfl) (fun _ _ _ h => h) hHeld (by intro w hSw; (try dsimp only at hSw); go_simp; (try with_reducible rfl)) ?_; (try simp only [Act.put, List.setIfInBounds_toArray, List.set_cons_zero, List.set_cons_succ])
          refine next_on 7 (by simp only [List.getElem?_toArray, List.getElem?_cons_succ, List.getElem?_cons_zero]; exact rfl) (by kernel_rfl) (by kernel_rfl) (by kernel_rfl) (by rfl) (fun _ _ _ h => h) hHeld (by intro w hSw; (try dsimp only at hSw); go_simp; (try with_reducible rfl)) ?_; (try simp only [Act.put, List.setIfInBounds_toArray, List.set_cons_zero, List.set_cons_succ])
          refine next_on 8 (by simp only [List.getElem?_toArray, List.getElem?_cons_succ, List.getElem?_cons_zero]; exact rfl) (by kernel_rfl) (by kernel_rfl) (by kernel_rfl) (by rfl) (fun _ _ _ h => h) hHeld (by intro w hSw; (try dsimp only at hSw); go_simp; (try with_reducible rfl)) ?_; (try simp only [Act.put, List.setIfInBounds_toArray, List.set_cons_zero, List.set_cons_succ])
          refine next_on 9 (by simp only [List.getElem?_toArray, List.getElem?_cons_succ, List.getElem?_cons_zero]; exact rfl) (by kernel_rfl) (by kernel_rfl) (by kernel_rfl) (by rfl) (fun _ _ _ h => h) hHeld (by intro w hSw; (try dsimp only at hSw); go_simp; (try with_reducible rfl)) ?_; (try simp only [Act.put, List.setIfInBounds_toArray, List.set_cons_zero, List.set_cons_succ])
          refine next_on 10 (by simp only [List.getElem?_toArray, List.getElem?_cons_succ, List.getElem?_cons_zero]; exact rfl) (by kernel_rfl) (by kernel_rfl) (by kernel_rfl) (by rfl) (fun _ _ _ h => h) hHeld (by intro w hSw; (try dsimp only at hSw); go_simp; (try with_reducible rfl)) ?_; (try simp only [Act.put, List.setIfInBounds_toArray, List.set_cons_zero, List.set_cons_succ])
          refine next_on 11 (by simp only [List.getElem?_toArray, List.getElem?_cons_succ, List.getElem?_cons_zero]; exact rfl) (by kernel_rfl) (by kernel_rfl) (by kernel_rfl) (by rfl) (fun _ _ _ h => h) hHeld (by intro w hSw; (try dsimp only at hSw); go_simp; (try with_reducible rfl)) ?_; (try simp only [Act.put, List.setIfInBounds_toArray, List.set_cons_zero, List.set_cons_succ])
          refine next_on 12 (by simp only [List.getElem?_toArray, List.getElem?_cons_succ, List.getElem?_cons_zero]; exact rfl) (by kernel_rfl) (by kernel_rfl) (by kernel_rfl) (by rfl) (fun _ _ _ h => h) hHeld (by intro w hSw; (try dsimp only at hSw); go_simp; (try with_reducible rfl)) ?_; (try simp only [Act.put, List.setIfInBounds_toArray, List.set_cons_zero, List.set_cons_succ])
          refine next_on 13 (by simp only [List.getElem?_toArray, List.getElem?_cons_succ, List.getElem?_cons_zero]; exact rfl) (by kernel_rfl) (by kernel_rfl) (by kernel_rfl) (by rfl) (fun _ _ _ h => h) hHeld (by intro w hSw; (try dsimp only at hSw); go_simp; (try with_reducible rfl)) ?_; (try simp only [Act.put, List.setIfInBounds_toArray, List.set_cons_zero, List.set_cons_succ])
          refine next_on 14 (by simp only [List.getElem?_toArray, List.getElem?_cons_succ, List.getElem?_cons_zero]; exact rfl) (by kernel_rfl) (by kernel_rfl) (by kernel_rfl) (by rfl) (fun _ _ _ h => h) hHeld (by intro w hSw; (try dsimp only at hSw); go_simp; (try with_reducible rfl)) ?_; (try simp only [Act.put, List.setIfInBounds_toArray, List.set_cons_zero, List.set_cons_succ])
          refine next_call 15 (by kernel_rfl) (by simp only [List.getElem?_toArray, List.getElem?_cons_succ, List.getElem?_cons_zero]; exact rfl) (by rfl) (fun K hK => ?_)
          go_simp
          (first | go_wp2_with fail | skip)
          refine hK.out _ _ ⟨s0, ⟨r0, r3⟩⟩ (fun hHeld => ?_)
          clear hK K
          (try simp only [Act.put, List.setIfInBounds_toArray, List.set_cons_zero, List.set_cons_succ])
          refine next_call 16 (by kernel_rfl) (by simp only [List.getElem?_toArray, List.getElem?_cons_succ, List.getElem?_cons_zero]; exact rfl) (by rfl) (fun K hK => ?_)
          refine wp_append_lies _ (.tmp 42) (.tmp 57) 40 (by rfl) w.heap.size 32 i3 (.agg #[.int .i64 0, .int .i64 0, .int .i64 0, .int .i64 0, .string ByteArray.empty]) 5 48 Try.underlying40 hi3 hz3 hs3 hb3 rfl (by decide) u5 (dfold C now j).2.length _ (by rfl) HOWN.out ⟨wr.heap.size, 0, none⟩ 1 1 (Mg.cells ⟨1, C.me, p.1.to, id, p.1.body⟩) (by rfl) rfl HNEW.out (mg_one _) (by decide) hl1 hl2 (by simp; omega) (wr.heap.size + 1) (by simp) ?_
          intro g cap w3 hrow hgrow hor hlt
          have hO3 : Only u5.ownBlock.toList wr w3 := (HOB.out.mono (by simp)).grown hgrow (fun k hk => .inl (by simp [hk]))
          have hQl : ∀ b ∈ P.map Prod.snd, b < w.heap.size := fun b hb => by
            obtain ⟨q, hq, rfl⟩ := List.mem_map.1 hb
            exact lt_of_heap (HK.out q hq)
          have hpQ : p.2 ∈ P.map Prod.snd := by rw [← HD.out.hQ]; exact List.mem_map.2 ⟨p, HPM.out, rfl⟩
          have hnG : ∀ b, b < w.heap.size → b ∉ u5.ownBlock.toList := fun b hb hm => by simp at hm; have := (hvlt b hm).1; omega
          have hcw := lt_of_heap HC.out
          have hpw := hQl _ hpQ
          have x0 := hO3.cell c0 (hnG c hcw)
          have x3 := hO3.cell c3 (hnG c hcw)
          have y0 := hO3.cell d0 (hnG _ hpw)
          have y1 := hO3.cell d1 (hnG _ hpw)
          have y2 := hO3.cell d2 (hnG _ hpw)
          have y3 := hO3.cell d3 (hnG _ hpw)
          have hp3 := hO3.keep HPC.out (hnG _ hpw)
          have HT3 := Lib.hid (HD.out.hT.only hO3 (fun b hb hm => by simp at hm; exact HD.out.hvF b hm hb))
          have HO3 := Lib.hid hO3
          have HROW := Lib.hid hrow
          have HOR := Lib.hid hor
          have HP3 := Lib.hid hp3
          have HQL := Lib.hid hQl
          have HPQ := Lib.hid hpQ
          clear hO3 hrow hgrow hor hp3 hQl hpQ hnG hvlt
          refine hK.out _ _ ⟨x0, ⟨y0, y3⟩⟩ (fun hHeld => ?_)
          clear hK K
          (try simp only [Act.put, List.setIfInBounds_toArray, List.set_cons_zero, List.set_cons_succ])
          refine next_on 17 (by simp only [List.getElem?_toArray, List.getElem?_cons_succ, List.getElem?_cons_zero]; exact rfl) (by kernel_rfl) (by kernel_rfl) (by kernel_rfl) (by rfl) (fun _ _ _ h => h) hHeld (by intro w hSw; (try dsimp only at hSw); go_simp; (try with_reducible rfl)) ?_; (try simp only [Act.put, List.setIfInBounds_toArray, List.set_cons_zero, List.set_cons_succ])
          refine reg_end (by kernel_rfl) ?_ _
          clear hHeld c0 c2 c3 d0 d1 d2 d3 d4 f4 r0 r3 s0 z0 hrun hl1 hl2
          have hwrap : IntKind.i64.wrap (now + waitOf p.1.sent) = now + waitOf p.1.sent := IntWalk.i64_in _ (by omega)
          go_wp2_with fail
          refine reg_begin 12 (S := fun w' => w'.cell? ⟨c, 3, none⟩ = some (.pointer (some ⟨t, 0, none⟩)) ∧ w'.cell? ⟨p.2, 2, none⟩ = some (.int .i64 (waitOf p.1.sent))) (by rfl) (by kernel_rfl) ⟨x3, y2⟩ (fun hHeld => ?_)
          refine next_on 0 (by simp only [List.getElem?_toArray, List.getElem?_cons_succ, List.getElem?_cons_zero]; exact rfl) (by kernel_rfl) (by kernel_rfl) (by kernel_rfl) (by rfl) (fun _ _ _ h => h) hHeld (by intro w hSw; (try dsimp only at hSw); go_simp; (try with_reducible rfl)) ?_; (try simp only [Act.put, List.setIfInBounds_toArray, List.set_cons_zero, List.set_cons_succ])
          refine next_on 1 (by simp only [List.getElem?_toArray, List.getElem?_cons_succ, List.getElem?_cons_zero]; exact rfl) (by kernel_rfl) (by kernel_rfl) (by kernel_rfl) (by rfl) (fun _ _ _ h => h) hHeld (by intro w hSw; (try dsimp only at hSw); go_simp; (try with_reducible rfl)) ?_; (try simp only [Act.put, List.setIfInBounds_toArray, List.set_cons_zero, List.set_cons_succ])
          refine next_on 2 (by simp only [List.getElem?_toArray, List.getElem?_cons_succ, List.getElem?_cons_zero]; exact rfl) (by kernel_rfl) (by kernel_rfl) (by kernel_rfl) (by rfl) (fun _ _ _ h => h) hHeld (by intro w hSw; (try dsimp only at hSw); go_simp; (try with_reducible rfl)) ?_; (try simp only [Act.put, List.setIfInBounds_toArray, List.set_cons_zero, List.set_cons_succ])
          refine next_on 3 (by simp only [List.getElem?_toArray, List.getElem?_cons_succ, List.getElem?_cons_zero]; exact rfl) (by kernel_rfl) (by kernel_rfl) (by kernel_rfl) (by rfl) (fun _ _ _ h => h) hHeld (by intro w hSw; (try dsimp only at hSw); go_simp; (try with_reducible rfl)) ?_; (try simp only [Act.put, List.setIfInBounds_toArray, List.set_cons_zero, List.set_cons_succ])
          refine next_on 4 (by simp only [List.getElem?_toArray, List.getElem?_cons_succ, List.getElem?_cons_zero]; exact rfl) (by kernel_rfl) (by kernel_rfl) (by kernel_rfl) (by rfl) (fun _ _ _ h => h) hHeld (by intro w hSw; (try dsimp only at hSw); go_simp; (try with_reducible rfl)) ?_; (try simp only [Act.put, List.setIfInBounds_toArray, List.set_cons_zero, List.set_cons_succ])
          refine next_on 5 (by simp only [List.getElem?_toArray, List.getElem?_cons_succ, List.getElem?_cons_zero]; exact rfl) (by kernel_rfl) (by kernel_rfl) (by kernel_rfl) (by rfl) (fun _ _ _ h => h) hHeld (by intro w hSw; (try dsimp only at hSw); go_simp; (try with_reducible rfl)) ?_; (try simp only [Act.put, List.setIfInBounds_toArray, List.set_cons_zero, List.set_cons_succ])
          refine next_on 6 (by simp only [List.getElem?_toArray, List.getElem?_cons_succ, List.getElem?_cons_zero]; exact rfl) (by kernel_rfl) (by kernel_rfl) (by kernel_rfl) (by rfl) (fun _ _ _ h => h) hHeld (by intro w hSw; (try dsimp only at hSw); go_simp; (try with_reducible rfl)) ?_; (try simp only [Act.put, List.setIfInBounds_toArray, List.set_cons_zero, List.set_cons_succ])
          refine next_on 7 (by simp only [List.getElem?_toArray, List.getElem?_cons_succ, List.getElem?_cons_zero]; exact rfl) (by kernel_rfl) (by kernel_rfl) (by kernel_rfl) (by rfl) (fun _ _ _ h => h) hHeld (by intro w hSw; (try dsimp only at hSw); go_simp; (try with_reducible rfl)) ?_; (try simp only [Act.put, List.setIfInBounds_toArray, List.set_cons_zero, List.set_cons_succ])
          refine next_on 8 (by simp only [List.getElem?_toArray, List.getElem?_cons_succ, List.getElem?_cons_zero]; exact rfl) (by kernel_rfl) (by kernel_rfl) (by kernel_rfl) (by rfl) (fun _ _ _ h => h) hHeld (by intro w hSw; (try dsimp only at hSw); go_simp; (try with_reducible rfl)) ?_; (try simp only [Act.put, List.setIfInBounds_toArray, List.set_cons_zero, List.set_cons_succ])
          refine next_on 9 (by simp only [List.getElem?_toArray, List.getElem?_cons_succ, List.getElem?_cons_zero]; exact rfl) (by kernel_rfl) (by kernel_rfl) (by kernel_rfl) (by rfl) (fun _ _ _ h => h) hHeld (by intro w hSw; (try dsimp only at hSw); go_simp; (try with_reducible rfl)) ?_; (try simp only [Act.put, List.setIfInBounds_toArray, List.set_cons_zero, List.set_cons_succ])
          refine next_on 10 (by simp only [List.getElem?_toArray, List.getElem?_cons_succ, List.getElem?_cons_zero]; exact rfl) (by kernel_rfl) (by kernel_rfl) (by kernel_rfl) (by rfl) (fun _ _ _ h => h) hHeld (by intro w hSw; (try dsimp only at hSw); go_simp; (try with_reducible rfl)) ?_; (try simp only [Act.put, List.setIfInBounds_toArray, List.set_cons_zero, List.set_cons_succ])
          refine next_call 11 (by kernel_rfl) (by simp only [List.getElem?_toArray, List.getElem?_cons_succ, List.getElem?_cons_zero]; exact rfl) (by rfl) (fun K hK => ?_)
          go_simp
          refine (timSet_at (HT3.out.only (Only.refl [] w3).drew (by simp)) _ _).mono ?_
          rintro e w4 ⟨rfl, Ft4, hT4, hO4, hF4⟩
          have hO4' := (Only.refl Ft' w3).drew.trans hO4
          have u3 := hO4'.cell x3 HD.out.h2
          have v1 := hO4'.cell y1 (HD.out.h3 _ HPQ.out)
          have v2 := hO4'.cell y2 (HD.out.h3 _ HPQ.out)
          have hp4 := hO4'.keep HP3.out (HD.out.h3 _ HPQ.out)
          have HT4 := Lib.hid hT4
          have HO4 := Lib.hid hO4'
          have HF4 := Lib.hid hF4
          have HP4 := Lib.hid hp4
          clear hT4 hO4 hO4' hF4 hp4
          (first | go_wp2_with fail | skip)
          refine hK.out _ _ ⟨u3, v2⟩ (fun hHeld => ?_)
          clear hK K
          (try simp only [Act.put, List.setIfInBounds_toArray, List.set_cons_zero, List.set_cons_succ])
          refine reg_end (by kernel_rfl) ?_ _
          clear hHeld hwrap x0 x3 y0 y1 y2 y3
          go_wp2_with fail
          have f1 : w4.frozen? ⟨p.2, 1, none⟩ = false := frozen_at HP4.out
          have f2 : w4.frozen? ⟨p.2, 2, none⟩ = false := frozen_at HP4.out
          have hs64 : (p.1.sent : Int) ≤ 8 := by omega
          go_region
          go_wp2_with fail
          go_roundw
          case rel =>
            have hwn : (if 64 < 2 * waitOf p.1.sent then 64 else 2 * waitOf p.1.sent) = waitOf (p.1.sent + 1) := by
              show _ = min (2 * waitOf p.1.sent) 64
              split <;> omega
            rw [hwn]
            have hsz3 := HO3.out.size
            have hzp := heap_store (o := 2) (u := .int .i64 (waitOf (p.1.sent + 1))) (heap_store (o := 1) (u := .int .i64 ((p.1.sent : Int) + 1)) HP4.out)
            have hOS : Only [p.2] w4 ((w4.setCell ⟨p.2, 1, none⟩ (.int .i64 ((p.1.sent : Int) + 1))).setCell ⟨p.2, 2, none⟩ (.int .i64 (waitOf (p.1.sent + 1)))).drew := (((Only.refl [p.2] w4).setCell (p := ⟨p.2, 1, none⟩) (.inl (by simp)) _).setCell (p := ⟨p.2, 2, none⟩) (.inl (by simp)) _).drew
            have hpF := HD.out.h3 _ HPQ.out
            have hpF4 : p.2 ∉ Ft4 := fun hm => by
              rcases HF4.out _ hm with h4 | h4
              · exact hpF h4
              · have := lt_of_heap HP3.out; simp at h4; omega
            have hgF : g ∉ Ft' := fun hm => by
              rcases HOR.out with h5 | h5
              · exact HD.out.hvF g h5 hm
              · have := HD.out.hT.lt g hm; omega
            have hgp : g ≠ p.2 := by
              rcases HOR.out with h5 | h5
              · have := (HD.out.hv.lt g h5).1; have := HQL.out _ HPQ.out; omega
              · have := HQL.out _ HPQ.out; omega
            have hrow4 := row_keep (row_keep HROW.out (fun g' hg' => by simp [Value.ownBlock] at hg'; subst hg'; exact HO4.out.block _ hlt hgF)) (fun g' hg' => by
              simp [Value.ownBlock] at hg'; subst hg'
              exact hOS.block _ (Nat.lt_of_lt_of_le hlt HO4.out.size) (by simpa using hgp))
            have hG : Only (p.2 :: (Ft' ++ u5.ownBlock.toList)) wr ((w4.setCell ⟨p.2, 1, none⟩ (.int .i64 ((p.1.sent : Int) + 1))).setCell ⟨p.2, 2, none⟩ (.int .i64 (waitOf (p.1.sent + 1)))).drew :=
              ((HO3.out.mono (fun i hi => .inl (by simp [hi]))).trans (HO4.out.mono (fun i hi => .inl (by simp [hi])))).trans (hOS.mono (fun i hi => .inl (by simp at hi; simp [hi])))
            exact ⟨j + 1, Ft4, _, _, by omega, by go_num, due_again HD.out HOK.out HM.out HN.out HQL.out (lt_of_heap HC.out) (lt_of_heap HB.out) (by rw [HNN.out]; exact hjn) HID.out HPF.out HF.out h8 hG hzp (HT4.out.only hOS (fun b hb => by simp; rintro rfl; exact hpF4 hb)) (n3 := w3.heap.size) HF4.out hsz3 hlt hrow4 (by
              rcases HOR.out with h5 | h5
              · exact .inl h5
              · exact .inr (by omega))⟩
          case measure => simp [intOf]; omega
      · obtain rfl : j = n := by omega
        go_wp2_with fail
        go_ret
        have hD := HD.out
        rw [← HNN.out] at hD ⊢
        have hQl : ∀ b ∈ P.map Prod.snd, b < w.heap.size := fun b hb => by
          obtain ⟨q, hq, rfl⟩ := List.mem_map.1 hb
          exact lt_of_heap (HK.out q hq)
        exact ⟨_, rfl, due_over hD HOK.out HN.out hQl (lt_of_heap HC.out) (lt_of_heap HB.out)⟩
end Go.Proofs.Ytllfehahjkbhiaa
