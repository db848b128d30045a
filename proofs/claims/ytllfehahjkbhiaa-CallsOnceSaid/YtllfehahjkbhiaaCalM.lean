/- Calls as plain data: who is called, how often it was sent, when it is due. No program is named. -/
import Derived.Test.YtllfehahjkbhiaaTimM
namespace Go.Proofs.Ytllfehahjkbhiaa
set_option linter.unusedSimpArgs false
set_option linter.unusedVariables false
structure Kc where
  id : Int
  to : Int
  sent : Nat
  due : Int
  body : ByteArray
  what : Int
  answer : ByteArray
/-- A message. -/
structure Mg where
  kind : Int
  from_ : Int
  to : Int
  id : Int
  body : ByteArray
structure Cs where
  me : Int
  next : Int
  L : List Kc
/-- The wait behind so many sends. -/
def waitOf : Nat → Int
  | 0 => 4
  | n + 1 => min (2 * waitOf n) 64
theorem waitOf_bd : ∀ n, 4 ≤ waitOf n ∧ waitOf n ≤ 64
  | 0 => by simp [waitOf]
  | n + 1 => by have := waitOf_bd n; unfold waitOf; omega
def Kc.tm (k : Kc) : Tm := ⟨k.id, k.due⟩
def Kc.msg (k : Kc) (me : Int) : Mg := ⟨1, me, k.to, k.id, k.body⟩
def Kc.giveUp (k : Kc) : Kc := { k with what := 3 }
def Kc.again (now : Int) (k : Kc) : Kc := { k with sent := k.sent + 1, due := now + waitOf k.sent }
def Kc.answered (s : ByteArray) (k : Kc) : Kc := { k with what := 2, answer := s }
def opens (L : List Kc) : List Kc := L.filter fun k => k.what == 1
def kfind (id : Int) (L : List Kc) : Option Kc := L.find? fun k => k.id == id
def kset (id : Int) (f : Kc → Kc) (L : List Kc) : List Kc := L.map fun k => if k.id = id then f k else k
def kdel (id : Int) (L : List Kc) : List Kc := L.filter fun k => k.id != id
/-- The timers of calls. -/
def tmsOf (L : List Kc) : List Tm := ((opens L).map Kc.tm).mergeSort fun a b => decide (a.at_ < b.at_ ∨ a.at_ = b.at_ ∧ a.id ≤ b.id)
def momentB (now : Int) : Bool := decide (0 ≤ now) && decide (now ≤ 1099511626776)
structure CsOk (C : Cs) : Prop where
  me : 0 ≤ C.me ∧ C.me ≤ 63
  next : 0 ≤ C.next ∧ C.next ≤ 2147483647
  sorted : C.L.Pairwise fun a b => a.id < b.id
  ids : ∀ k ∈ C.L, 0 ≤ k.id ∧ k.id < C.next
  few : (opens C.L).length ≤ 64
  sent : ∀ k ∈ C.L, k.sent ≤ 8
  blank : ∀ k ∈ C.L, k.what = 1 → k.answer = ByteArray.empty
  known : ∀ k ∈ C.L, k.what ≠ 0
def cnew (me first : Int) : Cs := ⟨min (max me 0) 63, min (max first 0) 1073741824, []⟩
def ccall (C : Cs) (to : Int) (body : ByteArray) (now : Int) : Cs × Int × Int :=
  if to < 0 ∨ 63 < to ∨ momentB now = false then (C, 0, 1)
  else if 4096 < body.size then (C, 0, 2)
  else if 2147483647 ≤ C.next ∨ 64 ≤ (opens C.L).length then (C, 0, 5)
  else (⟨C.me, C.next + 1, C.L ++ [⟨C.next, to, 0, now, body, 1, ByteArray.empty⟩]⟩, C.next, 0)
def canswer (C : Cs) (m : Mg) : Cs × Bool :=
  match kfind m.id C.L with
  | none => (C, false)
  | some k => if m.kind = 2 ∧ m.to = C.me ∧ k.what = 1 ∧ k.to = m.from_ then (⟨C.me, C.next, kset m.id (Kc.answered m.body) C.L⟩, true) else (C, false)
def cstate (C : Cs) (id : Int) : Int × ByteArray :=
  match kfind id C.L with
  | none => (0, ByteArray.empty)
  | some k => (k.what, k.answer)
def cforget (C : Cs) (id : Int) : Cs × Bool :=
  match kfind id C.L with
  | none => (C, false)
  | some k => if k.what = 0 ∨ k.what = 1 then (C, false) else (⟨C.me, C.next, kdel id C.L⟩, true)
def dstep (me now : Int) (st : List Kc × List Mg) (id : Int) : List Kc × List Mg :=
  match kfind id st.1 with
  | none => st
  | some k => if 8 ≤ k.sent then (kset id Kc.giveUp st.1, st.2) else (kset id (Kc.again now) st.1, st.2 ++ [k.msg me])
def dids (L : List Kc) (now : Int) : List Int := (tdue (tmsOf L) now).map Tm.id
def dfold (C : Cs) (now : Int) (j : Nat) : List Kc × List Mg := ((dids C.L now).take j).foldl (dstep C.me now) (C.L, [])
def cdue (C : Cs) (now : Int) : Cs × List Mg :=
  if momentB now = true then (⟨C.me, C.next, (dfold C now (dids C.L now).length).1⟩, (dfold C now (dids C.L now).length).2) else (C, [])

/-! ### Lists in order are told by what is in them -/
theorem lt_uniq {S T : List Tm} (hs : S.Pairwise Tm.lt) (ht : T.Pairwise Tm.lt) (h : ∀ x, x ∈ S ↔ x ∈ T) : S = T := by
  have n1 : S.Nodup := hs.imp (fun {a b} h e => by subst e; unfold Tm.lt at h; omega)
  have n2 : T.Nodup := ht.imp (fun {a b} h e => by subst e; unfold Tm.lt at h; omega)
  refine List.Perm.eq_of_pairwise (le := Tm.lt) (fun a b _ _ h1 h2 => ?_) hs ht ((List.perm_ext_iff_of_nodup n1 n2).2 h)
  unfold Tm.lt at h1 h2; omega
theorem tms_mem {L : List Kc} (x : Tm) : x ∈ tmsOf L ↔ ∃ k ∈ L, k.what = 1 ∧ k.tm = x := by
  unfold tmsOf opens
  rw [(List.mergeSort_perm _ _).mem_iff]
  simp only [List.mem_map, List.mem_filter, beq_iff_eq]
  constructor
  · rintro ⟨k, ⟨h1, h2⟩, h3⟩; exact ⟨k, h1, h2, h3⟩
  · rintro ⟨k, h1, h2, h3⟩; exact ⟨k, ⟨h1, h2⟩, h3⟩
theorem ids_nodup {L : List Kc} (h : L.Pairwise fun a b => a.id < b.id) : (L.map Kc.id).Nodup := by
  rw [List.Nodup, List.pairwise_map]
  exact h.imp (fun {a b} h e => by omega)
theorem id_uniq {L : List Kc} (h : L.Pairwise fun a b => a.id < b.id) {a b : Kc} (ha : a ∈ L) (hb : b ∈ L) (e : a.id = b.id) : a = b := by
  obtain ⟨i, hi, rfl⟩ := List.getElem_of_mem ha
  obtain ⟨j, hj, rfl⟩ := List.getElem_of_mem hb
  have h2 := List.pairwise_iff_getElem.1 h
  rcases Nat.lt_trichotomy i j with hij | rfl | hij
  · have := h2 i j hi hj hij; omega
  · rfl
  · have := h2 j i hj hi hij; omega
theorem tms_sorted {L : List Kc} (h : L.Pairwise fun a b => a.id < b.id) : (tmsOf L).Pairwise Tm.lt := by
  have hs := List.pairwise_mergeSort (le := fun a b : Tm => decide (a.at_ < b.at_ ∨ a.at_ = b.at_ ∧ a.id ≤ b.id)) (fun a b c h1 h2 => by simp at *; omega) (fun a b => by simp; omega) ((opens L).map Kc.tm)
  have hn : (tmsOf L).Nodup := by
    unfold tmsOf
    refine (List.mergeSort_perm _ _).nodup_iff.2 ?_
    rw [List.Nodup, List.pairwise_map]
    have h1 : (opens L).Pairwise fun a b => a.id < b.id := List.Pairwise.filter _ h
    exact h1.imp (fun {a b} h e => by unfold Kc.tm at e; injection e with e _; omega)
  have hb := List.pairwise_and_iff.2 ⟨hs, hn⟩
  refine hb.imp (fun {a b} h => ?_)
  obtain ⟨h1, h2⟩ := h
  simp at h1
  unfold Tm.lt
  rcases h1 with h1 | ⟨h1, h3⟩
  · exact .inl h1
  · refine .inr ⟨h1, ?_⟩
    rcases Int.lt_or_eq_of_le h3 with h4 | h4
    · exact h4
    · exact (h2 (by cases a; cases b; simp_all)).elim
theorem tms_uniq {L : List Kc} (hL : L.Pairwise fun a b => a.id < b.id) {S : List Tm} (hs : S.Pairwise Tm.lt) (h : ∀ x, x ∈ S ↔ ∃ k ∈ L, k.what = 1 ∧ k.tm = x) : S = tmsOf L :=
  lt_uniq hs (tms_sorted hL) fun x => (h x).trans (tms_mem x).symm
theorem tms_nil : tmsOf [] = [] := by simp [tmsOf, opens]
theorem tms_len (L : List Kc) : (tmsOf L).length = (opens L).length := by unfold tmsOf; simp
theorem tins_mem (x : Tm) (S : List Tm) (y : Tm) : y ∈ tins x S ↔ y = x ∨ y ∈ S := by rw [(tins_perm x S).mem_iff]; simp
theorem tout_mem (id : Int) (S : List Tm) (y : Tm) : y ∈ tout id S ↔ y ∈ S ∧ y.id ≠ id := by unfold tout; simp [List.mem_filter]

/-! ### One call turned, one taken away -/
theorem kset_mem {id : Int} {f : Kc → Kc} {L : List Kc} (x : Kc) : x ∈ kset id f L ↔ (x ∈ L ∧ x.id ≠ id) ∨ ∃ k ∈ L, k.id = id ∧ f k = x := by
  unfold kset
  simp only [List.mem_map]
  constructor
  · rintro ⟨k, hk, e⟩
    by_cases h : k.id = id
    · rw [if_pos h] at e; exact .inr ⟨k, hk, h, e⟩
    · rw [if_neg h] at e; subst e; exact .inl ⟨hk, h⟩
  · rintro (⟨h1, h2⟩ | ⟨k, h1, h2, h3⟩)
    · exact ⟨x, h1, by rw [if_neg h2]⟩
    · exact ⟨k, h1, by rw [if_pos h2]; exact h3⟩
theorem kset_sorted {id : Int} {f : Kc → Kc} (hf : ∀ k, (f k).id = k.id) {L : List Kc} (h : L.Pairwise fun a b => a.id < b.id) : (kset id f L).Pairwise fun a b => a.id < b.id := by
  unfold kset
  rw [List.pairwise_map]
  refine h.imp (fun {a b} h => ?_)
  split <;> split <;> simp [hf, h]
theorem kset_few {id : Int} {f : Kc → Kc} (hf : ∀ k, (f k).what = 1 → k.what = 1) : ∀ (L : List Kc), (opens (kset id f L)).length ≤ (opens L).length
  | [] => by simp [kset, opens]
  | k :: r => by
    have ih := kset_few hf (id := id) r
    unfold kset opens at *
    rw [List.map_cons]
    by_cases h : k.id = id
    · rw [if_pos h]
      by_cases h1 : k.what = 1
      · rw [List.filter_cons_of_pos (p := fun k : Kc => k.what == 1) (a := k) (by simpa using h1)]
        by_cases h2 : (f k).what = 1
        · rw [List.filter_cons_of_pos (by simpa using h2)]; simp; omega
        · rw [List.filter_cons_of_neg (by simpa using h2)]; simp; omega
      · rw [List.filter_cons_of_neg (p := fun k : Kc => k.what == 1) (a := k) (by simpa using h1), List.filter_cons_of_neg (by simpa using fun h2 => h1 (hf k h2))]
        exact ih
    · rw [if_neg h]
      by_cases h1 : k.what = 1
      · rw [List.filter_cons_of_pos (by simpa using h1), List.filter_cons_of_pos (by simpa using h1)]; simp; omega
      · rw [List.filter_cons_of_neg (by simpa using h1), List.filter_cons_of_neg (by simpa using h1)]; exact ih
theorem kfind_some {id : Int} {L : List Kc} {k : Kc} (h : kfind id L = some k) : k ∈ L ∧ k.id = id := by
  unfold kfind at h
  exact ⟨List.mem_of_find?_eq_some h, by simpa using List.find?_some h⟩
theorem kfind_none {id : Int} {L : List Kc} (h : kfind id L = none) : ∀ k ∈ L, k.id ≠ id := by
  unfold kfind at h
  intro k hk
  simpa using List.find?_eq_none.1 h k hk
theorem kfind_of {id : Int} {L : List Kc} (hL : L.Pairwise fun a b => a.id < b.id) {k : Kc} (hk : k ∈ L) (e : k.id = id) : kfind id L = some k := by
  cases h : kfind id L with
  | none => exact (kfind_none h k hk e).elim
  | some x =>
    obtain ⟨h1, h2⟩ := kfind_some h
    rw [id_uniq hL h1 hk (h2.trans e.symm)]
theorem cnew_ok (me first : Int) : CsOk (cnew me first) := by
  unfold cnew
  exact ⟨by dsimp; omega, by dsimp; omega, List.Pairwise.nil, by simp, by simp [opens], by simp, by simp, by simp⟩
theorem moment_bd {now : Int} (h : momentB now = true) : 0 ≤ now ∧ now ≤ 1099511626776 := by unfold momentB at h; simpa using h
theorem opens_snoc (L : List Kc) (k : Kc) (h : k.what = 1) : opens (L ++ [k]) = opens L ++ [k] := by unfold opens; rw [List.filter_append]; simp [h]
theorem ccall_ok {C : Cs} (h : CsOk C) (to : Int) (body : ByteArray) (now : Int) : CsOk (ccall C to body now).1 := by
  unfold ccall
  split
  · exact h
  · split
    · exact h
    · split
      · exact h
      · rename_i h1 h2 h3
        have hn := h.next
        refine ⟨h.me, by dsimp; omega, ?_, ?_, ?_, ?_, ?_, ?_⟩
        · rw [List.pairwise_append]
          refine ⟨h.sorted, by simp, fun a ha b hb => ?_⟩
          simp at hb; subst hb
          exact (h.ids a ha).2
        · intro k hk
          rcases List.mem_append.1 hk with hk | hk
          · have := h.ids k hk; dsimp; omega
          · simp at hk; subst hk; dsimp; omega
        · rw [opens_snoc _ _ rfl]; simp; omega
        · intro k hk
          rcases List.mem_append.1 hk with hk | hk
          · exact h.sent k hk
          · simp at hk; subst hk; simp
        · intro k hk h1
          rcases List.mem_append.1 hk with hk | hk
          · exact h.blank k hk h1
          · simp at hk; subst hk; rfl
        · intro k hk
          rcases List.mem_append.1 hk with hk | hk
          · exact h.known k hk
          · simp at hk; subst hk; simp
/-- The timer of a call that is opened. -/
theorem ccall_tms {C : Cs} (h : CsOk C) (to : Int) (body : ByteArray) {now : Int} (hm : momentB now = true) :
    tset (tmsOf C.L) C.next now = if 64 ≤ (opens C.L).length then (tmsOf C.L, 5) else (tmsOf (C.L ++ [⟨C.next, to, 0, now, body, 1, ByteArray.empty⟩]), 0) := by
  obtain ⟨m1, m2⟩ := moment_bd hm
  have hn := h.next
  have hno : tout C.next (tmsOf C.L) = tmsOf C.L := tout_none fun x hx e => by
    obtain ⟨k, hk, _, rfl⟩ := (tms_mem x).1 hx
    have := (h.ids k hk).2
    unfold Kc.tm at e; dsimp at e; omega
  unfold tset
  rw [if_neg (by omega), hno, tms_len]
  split
  · rfl
  · refine Prod.ext ?_ rfl
    dsimp only
    refine tms_uniq ?_ (tins_sorted (tms_sorted h.sorted) fun y hy e => ?_) fun x => ?_
    · rw [List.pairwise_append]
      refine ⟨h.sorted, by simp, fun a ha b hb => ?_⟩
      simp at hb; subst hb
      exact (h.ids a ha).2
    · obtain ⟨k, hk, _, rfl⟩ := (tms_mem y).1 hy
      have := (h.ids k hk).2
      unfold Kc.tm at e; dsimp at e; omega
    · rw [tins_mem, tms_mem]
      constructor
      · rintro (rfl | ⟨k, h1, h2, h3⟩)
        · exact ⟨_, List.mem_append.2 (.inr (List.mem_singleton.2 rfl)), rfl, rfl⟩
        · exact ⟨k, List.mem_append.2 (.inl h1), h2, h3⟩
      · rintro ⟨k, h1, h2, h3⟩
        rcases List.mem_append.1 h1 with h1 | h1
        · exact .inr ⟨k, h1, h2, h3⟩
        · simp at h1; subst h1; exact .inl h3.symm
theorem kset_ok {C : Cs} (h : CsOk C) {id : Int} {f : Kc → Kc} (hid : ∀ k, (f k).id = k.id) (hw : ∀ k, (f k).what = 1 → k.what = 1) (hs : ∀ k ∈ C.L, k.id = id → (f k).sent ≤ 8) (hb : ∀ k ∈ C.L, k.id = id → (f k).what = 1 → (f k).answer = ByteArray.empty) (hkn : ∀ k ∈ C.L, k.id = id → (f k).what ≠ 0) : CsOk ⟨C.me, C.next, kset id f C.L⟩ := by
  refine ⟨h.me, h.next, kset_sorted hid h.sorted, ?_, Nat.le_trans (kset_few hw _) h.few, ?_, ?_, ?_⟩
  · intro k hk
    rcases (kset_mem k).1 hk with ⟨h1, _⟩ | ⟨x, h1, _, rfl⟩
    · exact h.ids k h1
    · rw [hid]; exact h.ids x h1
  · intro k hk
    rcases (kset_mem k).1 hk with ⟨h1, _⟩ | ⟨x, h1, h2, rfl⟩
    · exact h.sent k h1
    · exact hs x h1 h2
  · intro k hk h3
    rcases (kset_mem k).1 hk with ⟨h1, _⟩ | ⟨x, h1, h2, rfl⟩
    · exact h.blank k h1 h3
    · exact hb x h1 h2 h3
  · intro k hk
    rcases (kset_mem k).1 hk with ⟨h1, _⟩ | ⟨x, h1, h2, rfl⟩
    · exact h.known k h1
    · exact hkn x h1 h2
theorem canswer_ok {C : Cs} (h : CsOk C) (m : Mg) : CsOk (canswer C m).1 := by
  unfold canswer
  cases hf : kfind m.id C.L with
  | none => exact h
  | some k =>
    dsimp only
    split
    · exact kset_ok h (fun _ => rfl) (fun k e => by simp [Kc.answered] at e) (fun k hk _ => h.sent k hk) (fun k _ _ e => by simp [Kc.answered] at e) (fun k _ _ => by simp [Kc.answered])
    · exact h
/-- The timers without one that is closed. -/
theorem close_tms {L : List Kc} (hL : L.Pairwise fun a b => a.id < b.id) {id : Int} {f : Kc → Kc} (hid : ∀ k, (f k).id = k.id) (hw : ∀ k, (f k).what ≠ 1) : tout id (tmsOf L) = tmsOf (kset id f L) := by
  refine tms_uniq (kset_sorted hid hL) ((tms_sorted hL).sublist (tout_sub _ _)) fun x => ?_
  rw [tout_mem, tms_mem]
  constructor
  · rintro ⟨⟨k, h1, h2, rfl⟩, h3⟩
    exact ⟨k, (kset_mem k).2 (.inl ⟨h1, h3⟩), h2, rfl⟩
  · rintro ⟨k, h1, h2, rfl⟩
    rcases (kset_mem k).1 h1 with ⟨h4, h5⟩ | ⟨y, _, _, rfl⟩
    · exact ⟨⟨k, h4, h2, rfl⟩, h5⟩
    · exact (hw y h2).elim
theorem kdel_sub (id : Int) (L : List Kc) : (kdel id L).Sublist L := List.filter_sublist
theorem kdel_mem {id : Int} {L : List Kc} (x : Kc) : x ∈ kdel id L ↔ x ∈ L ∧ x.id ≠ id := by unfold kdel; simp [List.mem_filter]
theorem cforget_ok {C : Cs} (h : CsOk C) (id : Int) : CsOk (cforget C id).1 := by
  unfold cforget
  cases hf : kfind id C.L with
  | none => exact h
  | some k =>
    dsimp only
    split
    · exact h
    · have hs := kdel_sub id C.L
      exact ⟨h.me, h.next, h.sorted.sublist hs, fun k hk => h.ids k (hs.subset hk), Nat.le_trans (hs.filter _).length_le h.few, fun k hk => h.sent k (hs.subset hk), fun k hk => h.blank k (hs.subset hk), fun k hk => h.known k (hs.subset hk)⟩
theorem forget_tms {L : List Kc} (hL : L.Pairwise fun a b => a.id < b.id) {id : Int} {k : Kc} (hk : kfind id L = some k) (hw : k.what ≠ 1) : tmsOf L = tmsOf (kdel id L) := by
  obtain ⟨h1, h2⟩ := kfind_some hk
  refine tms_uniq (hL.sublist (kdel_sub _ _)) (tms_sorted hL) fun x => ?_
  rw [tms_mem]
  constructor
  · rintro ⟨y, h3, h4, rfl⟩
    exact ⟨y, (kdel_mem y).2 ⟨h3, fun e => hw (by rw [← id_uniq hL h3 h1 (e.trans h2.symm)]; exact h4)⟩, h4, rfl⟩
  · rintro ⟨y, h3, h4, rfl⟩
    exact ⟨y, ((kdel_mem y).1 h3).1, h4, rfl⟩
end Go.Proofs.Ytllfehahjkbhiaa
