/- Timers as plain data: a heap by moments, then numbers. No program is named. -/
import Derived.Test.YtllfehahjkbhiaaBase
namespace Go.Proofs.Ytllfehahjkbhiaa
set_option linter.unusedSimpArgs false
set_option linter.unusedVariables false
/-- A number, and when it is due. -/
structure Tm where
  id : Int
  at_ : Int
deriving DecidableEq
/-- Is x due ahead of y? -/
def Tm.lt (x y : Tm) : Prop := x.at_ < y.at_ ∨ (x.at_ = y.at_ ∧ x.id < y.id)
instance (x y : Tm) : Decidable (Tm.lt x y) := by unfold Tm.lt; infer_instance
theorem Tm.lt_asymm {x y : Tm} (h : x.lt y) : ¬ y.lt x := by unfold Tm.lt at *; omega
theorem Tm.lt_irrefl (x : Tm) : ¬ x.lt x := by unfold Tm.lt; omega
theorem Tm.nlt_trans {x y z : Tm} (h : ¬ y.lt x) (k : ¬ z.lt y) : ¬ z.lt x := by unfold Tm.lt at *; omega
theorem Tm.lt_trans {x y z : Tm} (h : x.lt y) (k : y.lt z) : x.lt z := by unfold Tm.lt at *; omega
theorem Tm.lt_nlt {x y z : Tm} (h : x.lt y) (k : ¬ z.lt y) : ¬ z.lt x := by unfold Tm.lt at *; omega
/-- Two places exchanged. -/
def sw (L : List Tm) (i j : Nat) (x y : Tm) : List Tm := (L.set i y).set j x
section
variable {L : List Tm} {i j : Nat} {x y : Tm}
theorem sw_len : (sw L i j x y).length = L.length := by simp [sw]
theorem sw_get (hi : L[i]? = some x) (hj : L[j]? = some y) (k : Nat) : (sw L i j x y)[k]? = if k = j then some x else if k = i then some y else L[k]? := by
  have hil := (List.getElem?_eq_some_iff.1 hi).1
  have hjl := (List.getElem?_eq_some_iff.1 hj).1
  unfold sw
  by_cases h1 : k = j
  · subst h1; rw [if_pos rfl, List.getElem?_set_self (by simpa using hjl)]
  · rw [if_neg h1, List.getElem?_set_ne (Ne.symm h1)]
    by_cases h2 : k = i
    · subst h2; rw [if_pos rfl, List.getElem?_set_self hil]
    · rw [if_neg h2, List.getElem?_set_ne (Ne.symm h2)]
theorem sw_perm (hi : L[i]? = some x) (hj : L[j]? = some y) : (sw L i j x y).Perm L := by
  obtain ⟨hil, rfl⟩ := List.getElem?_eq_some_iff.1 hi
  obtain ⟨hjl, rfl⟩ := List.getElem?_eq_some_iff.1 hj
  have h := Array.swap_perm (xs := L.toArray) (i := i) (j := j) (by simpa using hil) (by simpa using hjl)
  have h2 := Array.perm_iff_toList_perm.1 h
  have e : (L.toArray.swap i j (by simpa using hil) (by simpa using hjl)).toList = sw L i j L[i] L[j] := by
    simp [Array.swap, sw]
  rw [e] at h2
  exact h2
end
/-- A heap, as far as n. -/
def Hp (n : Nat) (L : List Tm) : Prop := ∀ (c : Nat) (x y : Tm), c < n → 0 < c → L[(c - 1) / 2]? = some x → L[c]? = some y → ¬ y.lt x
/-- A heap as far as n, but that j may have to go up. -/
structure UpOk (n : Nat) (L : List Tm) (j : Nat) : Prop where
  pair : ∀ (c : Nat) (x y : Tm), c < n → 0 < c → c ≠ j → L[(c - 1) / 2]? = some x → L[c]? = some y → ¬ y.lt x
  kids : ∀ (c : Nat) (x y : Tm), c < n → 0 < c → (c - 1) / 2 = j → 0 < j → L[(j - 1) / 2]? = some x → L[c]? = some y → ¬ y.lt x
theorem UpOk.done {n : Nat} {L : List Tm} {j : Nat} (h : UpOk n L j) (hj : ∀ x y, 0 < j → L[(j - 1) / 2]? = some x → L[j]? = some y → ¬ y.lt x) : Hp n L := fun c x y hc h0 hx hy => by
  by_cases e : c = j
  · subst e; exact hj x y h0 hx hy
  · exact h.pair c x y hc h0 e hx hy
theorem UpOk.step {n : Nat} {L : List Tm} {j : Nat} (h : UpOk n L j) (hj0 : 0 < j) (hjn : j < n) {x y : Tm} (hx : L[(j - 1) / 2]? = some x) (hy : L[j]? = some y) (hlt : y.lt x) : UpOk n (sw L ((j - 1) / 2) j x y) ((j - 1) / 2) := by
  have hij : (j - 1) / 2 < j := by omega
  refine ⟨?_, ?_⟩
  · intro c p q hc h0 hne hp hq
    rw [sw_get hx hy] at hp hq
    by_cases e1 : c = j
    · subst e1
      rw [if_pos rfl] at hq
      rw [if_neg (by omega), if_pos rfl] at hp
      cases hp; cases hq
      exact Tm.lt_asymm hlt
    · rw [if_neg e1, if_neg hne] at hq
      by_cases e2 : (c - 1) / 2 = j
      · rw [if_pos e2] at hp
        cases hp
        exact h.kids c _ _ hc h0 e2 hj0 hx hq
      · rw [if_neg e2] at hp
        by_cases e3 : (c - 1) / 2 = (j - 1) / 2
        · rw [if_pos e3] at hp
          cases hp
          exact Tm.lt_nlt hlt (h.pair c _ _ hc h0 e1 (by rw [e3]; exact hx) hq)
        · rw [if_neg e3] at hp
          exact h.pair c _ _ hc h0 e1 hp hq
  · intro c p q hc h0 hpar hi0 hp hq
    rw [sw_get hx hy] at hp hq
    rw [if_neg (by omega), if_neg (by omega)] at hp
    have h1 := h.pair ((j - 1) / 2) p x (by omega) hi0 (by omega) hp hx
    by_cases e1 : c = j
    · subst e1
      rw [if_pos rfl] at hq
      cases hq
      exact h1
    · rw [if_neg e1, if_neg (by omega)] at hq
      exact Tm.nlt_trans h1 (h.pair c _ _ hc h0 e1 (by rw [hpar]; exact hx) hq)
/-- A heap as far as n, but that what began at i0 and is now at i may have to go down (or, at i0, up). -/
structure DnOk (n : Nat) (L : List Tm) (i0 i : Nat) : Prop where
  pair : ∀ (c : Nat) (x y : Tm), c < n → 0 < c → (c - 1) / 2 ≠ i → (i = i0 → c ≠ i0) → L[(c - 1) / 2]? = some x → L[c]? = some y → ¬ y.lt x
  kids : ∀ (c : Nat) (x y : Tm), c < n → 0 < c → (c - 1) / 2 = i → 0 < i → L[(i - 1) / 2]? = some x → L[c]? = some y → ¬ y.lt x
/-- One step down: j is the child of i that is due first. -/
theorem DnOk.step {n : Nat} {L : List Tm} {i0 i j : Nat} (h : DnOk n L i0 i) (hi0 : i0 ≤ i) (hjn : j < n) (hj0 : 0 < j) (hij : (j - 1) / 2 = i) {x y : Tm} (hx : L[i]? = some x) (hy : L[j]? = some y) (hlt : y.lt x)
    (hmin : ∀ c q, c < n → 0 < c → (c - 1) / 2 = i → L[c]? = some q → ¬ q.lt y) : DnOk n (sw L i j x y) i0 j := by
  refine ⟨?_, ?_⟩
  · intro c p q hc h0 hne _ hp hq
    rw [sw_get hx hy] at hp hq
    rw [if_neg hne] at hp
    by_cases e1 : (c - 1) / 2 = i
    · rw [if_pos e1] at hp
      cases hp
      by_cases e2 : c = j
      · subst e2
        rw [if_pos rfl] at hq
        cases hq
        exact Tm.lt_asymm hlt
      · rw [if_neg e2, if_neg (by omega)] at hq
        exact hmin c _ hc h0 e1 hq
    · rw [if_neg e1] at hp
      by_cases e2 : c = i
      · subst e2
        rw [if_neg (by omega), if_pos rfl] at hq
        cases hq
        exact h.kids j _ _ hjn hj0 hij h0 hp hy
      · rw [if_neg (by omega), if_neg e2] at hq
        exact h.pair c _ _ hc h0 e1 (by omega) hp hq
  · intro c p q hc h0 hpar _ hp hq
    rw [sw_get hx hy] at hp hq
    rw [hij, if_neg (by omega), if_pos rfl] at hp
    cases hp
    rw [if_neg (by omega), if_neg (by omega)] at hq
    exact h.pair c _ _ hc h0 (by omega) (by omega) (by rw [hpar]; exact hy) hq
/-- The way down has ended. -/
theorem DnOk.moved {n : Nat} {L : List Tm} {i0 i : Nat} (h : DnOk n L i0 i) (hm : i ≠ i0) (hk : ∀ c x y, c < n → 0 < c → (c - 1) / 2 = i → L[i]? = some x → L[c]? = some y → ¬ y.lt x) : Hp n L := fun c x y hc h0 hx hy => by
  by_cases e : (c - 1) / 2 = i
  · exact hk c x y hc h0 e (by rw [← e]; exact hx) hy
  · exact h.pair c x y hc h0 e (fun e' => (hm e').elim) hx hy
theorem DnOk.stayed {n : Nat} {L : List Tm} {i0 : Nat} (h : DnOk n L i0 i0) (hk : ∀ c x y, c < n → 0 < c → (c - 1) / 2 = i0 → L[i0]? = some x → L[c]? = some y → ¬ y.lt x) : UpOk n L i0 :=
  ⟨fun c x y hc h0 hne hx hy => by
    by_cases e : (c - 1) / 2 = i0
    · exact hk c x y hc h0 e (by rw [← e]; exact hx) hy
    · exact h.pair c x y hc h0 e (fun _ => hne) hx hy, h.kids⟩
/-- In a heap the first is first. -/
theorem Hp.first {L : List Tm} (h : Hp L.length L) {x : Tm} (hx : L[0]? = some x) : ∀ (k : Nat) (y : Tm), L[k]? = some y → ¬ y.lt x := by
  intro k
  induction k using Nat.strongRecOn with
  | _ k ih =>
    intro y hy
    by_cases h0 : k = 0
    · subst h0; rw [hx] at hy; cases hy; exact Tm.lt_irrefl _
    · have hk := (List.getElem?_eq_some_iff.1 hy).1
      have hp : L[(k - 1) / 2]? = some (L[(k - 1) / 2]'(by omega)) := List.getElem?_eq_getElem _
      exact Tm.nlt_trans (ih _ (by omega) _ hp) (h k _ _ hk (by omega) hp hy)
end Go.Proofs.Ytllfehahjkbhiaa
