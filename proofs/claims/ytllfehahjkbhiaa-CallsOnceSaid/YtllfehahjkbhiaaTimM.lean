/- Timers as plain data: those that are set, in order. No program is named. -/
import Derived.Test.YtllfehahjkbhiaaHeapM
namespace Go.Proofs.Ytllfehahjkbhiaa
set_option linter.unusedSimpArgs false
set_option linter.unusedVariables false
/-- One more, in order. -/
def tins (x : Tm) : List Tm → List Tm
  | [] => [x]
  | y :: r => if y.lt x then y :: tins x r else x :: y :: r
def tout (id : Int) (S : List Tm) : List Tm := S.filter fun x => x.id != id
def tset (S : List Tm) (id at_ : Int) : List Tm × Int :=
  if id < 0 ∨ at_ < 0 ∨ 1099511627776 < at_ then (S, 1) else if 64 ≤ (tout id S).length then (S, 5) else (tins ⟨id, at_⟩ (tout id S), 0)
def thas (S : List Tm) (id : Int) : Bool := S.any fun x => x.id == id
def tdue (S : List Tm) (now : Int) : List Tm := S.filter fun x => decide (x.at_ ≤ now)
def trest (S : List Tm) (now : Int) : List Tm := S.filter fun x => decide (now < x.at_)
/-- Timers in order: each number once. -/
structure TmOk (S : List Tm) : Prop where
  sorted : S.Pairwise Tm.lt
  ids : (S.map Tm.id).Nodup
  few : S.length ≤ 64
  ok : ∀ x ∈ S, 0 ≤ x.id ∧ 0 ≤ x.at_ ∧ x.at_ ≤ 1099511627776
theorem TmOk.nil : TmOk [] := ⟨.nil, by simp, by simp, by simp⟩
theorem tins_perm (x : Tm) : ∀ S, (tins x S).Perm (x :: S)
  | [] => .refl _
  | y :: r => by
    unfold tins
    split
    · exact ((tins_perm x r).cons y).trans (.swap x y r)
    · exact .refl _
theorem tins_sorted {x : Tm} : ∀ {S : List Tm}, S.Pairwise Tm.lt → (∀ y ∈ S, y.id ≠ x.id) → (tins x S).Pairwise Tm.lt
  | [], _, _ => by simp [tins]
  | y :: r, h, hne => by
    rw [List.pairwise_cons] at h
    unfold tins
    split
    · rename_i hlt
      rw [List.pairwise_cons]
      refine ⟨fun z hz => ?_, tins_sorted h.2 fun z hz => hne z (List.mem_cons_of_mem _ hz)⟩
      rcases List.mem_cons.1 ((tins_perm x r).mem_iff.1 hz) with rfl | hz
      · exact hlt
      · exact h.1 z hz
    · rename_i hlt
      have hxy : x.lt y := by
        have := hne y (List.mem_cons_self ..)
        unfold Tm.lt at *; omega
      rw [List.pairwise_cons]
      refine ⟨fun z hz => ?_, List.pairwise_cons.2 h⟩
      rcases List.mem_cons.1 hz with rfl | hz
      · exact hxy
      · exact Tm.lt_trans hxy (h.1 z hz)
theorem tout_sub (id : Int) (S : List Tm) : (tout id S).Sublist S := List.filter_sublist
theorem TmOk.sub {S T : List Tm} (h : TmOk S) (hs : T.Sublist S) : TmOk T :=
  ⟨h.sorted.sublist hs, h.ids.sublist (hs.map _), Nat.le_trans hs.length_le h.few, fun x hx => h.ok x (hs.subset hx)⟩
theorem tout_ne {id : Int} {S : List Tm} : ∀ y ∈ tout id S, y.id ≠ id := fun y hy => by
  have := (List.mem_filter.1 hy).2
  simpa using this
theorem TmOk.ins {S : List Tm} (h : TmOk S) {x : Tm} (hne : ∀ y ∈ S, y.id ≠ x.id) (hf : S.length < 64) (hok : 0 ≤ x.id ∧ 0 ≤ x.at_ ∧ x.at_ ≤ 1099511627776) : TmOk (tins x S) := by
  have hp := tins_perm x S
  refine ⟨tins_sorted h.sorted hne, ?_, ?_, ?_⟩
  · refine ((hp.map Tm.id).nodup_iff).2 ?_
    rw [List.map_cons, List.nodup_cons]
    refine ⟨fun hm => ?_, h.ids⟩
    obtain ⟨y, hy, e⟩ := List.mem_map.1 hm
    exact hne y hy e
  · rw [hp.length_eq, List.length_cons]; omega
  · intro y hy
    rcases List.mem_cons.1 (hp.mem_iff.1 hy) with rfl | hy
    · exact hok
    · exact h.ok y hy
theorem tset_ok {S : List Tm} (h : TmOk S) (id at_ : Int) : TmOk (tset S id at_).1 := by
  unfold tset
  split
  · exact h
  · split
    · exact h
    · rename_i h1 h2
      exact (h.sub (tout_sub id S)).ins tout_ne (by omega) (by dsimp only; omega)
theorem trest_ok {S : List Tm} (h : TmOk S) (now : Int) : TmOk (trest S now) := h.sub List.filter_sublist
/-- The first of a list in order is the first of any of its heaps. -/
theorem first_eq {L S : List Tm} (hp : L.Perm S) (hh : Hp L.length L) (hs : S.Pairwise Tm.lt) : L[0]? = S[0]? := by
  cases S with
  | nil => rw [hp.eq_nil]; 
  | cons y r =>
    have hl : 0 < L.length := by rw [hp.length_eq]; simp
    obtain ⟨x, hx⟩ : ∃ x, L[0]? = some x := ⟨_, List.getElem?_eq_getElem hl⟩
    rw [hx]
    have hf := hh.first hx
    have hxm : x ∈ y :: r := hp.mem_iff.1 (List.mem_of_getElem? hx)
    have hym : y ∈ L := hp.mem_iff.2 (List.mem_cons_self ..)
    obtain ⟨k, hk⟩ := List.getElem?_of_mem hym
    rcases List.mem_cons.1 hxm with rfl | hxr
    · rfl
    · exact (hf k y hk ((List.pairwise_cons.1 hs).1 x hxr)).elim
/-- All but one number. -/
theorem out_perm {L : List Tm} {i : Nat} {x : Tm} (hx : L[i]? = some x) (hn : (L.map Tm.id).Nodup) (z : Tm) : (L.set i z).Perm (z :: tout x.id L) := by
  induction L generalizing i with
  | nil => simp at hx
  | cons y r ih =>
    rw [List.map_cons, List.nodup_cons] at hn
    cases i with
    | zero =>
      simp only [List.getElem?_cons_zero, Option.some.injEq] at hx
      subst hx
      have : tout y.id (y :: r) = r := by
        unfold tout
        rw [List.filter_cons_of_neg (by simp), List.filter_eq_self.2]
        intro a ha
        simp only [bne_iff_ne, ne_eq]
        exact fun e => hn.1 (List.mem_map.2 ⟨a, ha, e⟩)
      rw [this]
      exact .refl _
    | succ i =>
      have hx' : r[i]? = some x := by simpa using hx
      have hne : y.id ≠ x.id := fun e => hn.1 (List.mem_map.2 ⟨x, List.mem_of_getElem? hx', e.symm⟩)
      have : tout x.id (y :: r) = y :: tout x.id r := by
        unfold tout
        rw [List.filter_cons_of_pos (by simpa using hne)]
      rw [this, List.set_cons_succ]
      exact ((ih hx' hn.2).cons y).trans (.swap z y _)
theorem tout_perm {L S : List Tm} (h : L.Perm S) (id : Int) : (tout id L).Perm (tout id S) := h.filter _
theorem tout_none {S : List Tm} {id : Int} (h : ∀ x ∈ S, x.id ≠ id) : tout id S = S := List.filter_eq_self.2 fun x hx => by simpa using h x hx
/-- What is due is the head of a list in order. -/
theorem due_cons {y : Tm} {r : List Tm} (now : Int) (h : y.at_ ≤ now) : tdue (y :: r) now = y :: tdue r now ∧ trest (y :: r) now = trest r now := by
  unfold tdue trest
  exact ⟨List.filter_cons_of_pos (by simpa using h), List.filter_cons_of_neg (by simp; omega)⟩
theorem due_none {S : List Tm} (hs : S.Pairwise Tm.lt) (now : Int) (h : ∀ y, S[0]? = some y → now < y.at_) : tdue S now = [] ∧ trest S now = S := by
  have hall : ∀ x ∈ S, now < x.at_ := by
    cases S with
    | nil => intro x hx; cases hx
    | cons y r =>
      have h0 := h y rfl
      intro x hx
      rcases List.mem_cons.1 hx with rfl | hx
      · exact h0
      · have := (List.pairwise_cons.1 hs).1 x hx
        unfold Tm.lt at this; omega
  unfold tdue trest
  exact ⟨List.filter_eq_nil_iff.2 fun x hx => by have := hall x hx; simp; omega, List.filter_eq_self.2 fun x hx => by simpa using hall x hx⟩
end Go.Proofs.Ytllfehahjkbhiaa
