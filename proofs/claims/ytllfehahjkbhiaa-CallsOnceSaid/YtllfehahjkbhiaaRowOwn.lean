/- A row that the call owns, read as a list of flat elements. No program is named. -/
import Derived.Test.YtllfehahjkbhiaaOpen
import Derived.Test.YtllfehahjkbhiaaBytes
import Derived.Laws.AppendOwn
namespace Go.Proofs.Ytllfehahjkbhiaa
open Go.RowKit Go.Deep
set_option linter.unusedSimpArgs false
set_option linter.unusedVariables false
theorem flat_at {α : Type} {cells : α → List Value} {k : Nat} (hk : ∀ x, (cells x).length = k) : ∀ {l : List α} {i : Nat} {x : α} {j : Nat} {u : Value}, l[i]? = some x → (cells x)[j]? = some u → (l.flatMap cells)[i * k + j]? = some u
  | [], _, _, _, _, h, _ => by simp at h
  | y :: r, 0, x, j, u, h, hu => by
    simp at h; subst h
    have hj := (List.getElem?_eq_some_iff.1 hu).1
    rw [List.flatMap_cons, Nat.zero_mul, Nat.zero_add, List.getElem?_append_left hj]; exact hu
  | y :: r, i + 1, x, j, u, h, hu => by
    rw [List.flatMap_cons, List.getElem?_append_right (by rw [hk, Nat.succ_mul]; omega), hk, show (i + 1) * k + j - k = i * k + j by rw [Nat.succ_mul]; omega]
    exact flat_at hk (by simpa using h) hu
theorem flat_size {α : Type} {cells : α → List Value} {k : Nat} (hk : ∀ x, (cells x).length = k) (l : List α) : (l.flatMap cells).length = l.length * k := by
  induction l with
  | nil => simp
  | cons m r ih => rw [List.flatMap_cons, List.length_append, hk, ih, List.length_cons, Nat.succ_mul]; omega
theorem rows_own {α : Type} {cells : α → List Value} {k : Nat} (hk : ∀ x, (cells x).length = k) (hk0 : 0 < k) {w : World} {base n : Nat} {e : TypeId} {v : Value} {l : List α} (h : w.ownsRow base e k v n (l.flatMap cells)) :
    ∃ a cap, v = .slice a l.length cap ∧ RowsAt cells k w a l ∧ ∀ b o, a = some ⟨b, o, none⟩ → o = 0 ∧ v.ownBlock = some b ∧ base ≤ b := by
  have hl : l.length = n := by
    have := h.1; rw [flat_size hk] at this
    exact Nat.eq_of_mul_eq_mul_right hk0 this
  subst hl
  rcases h.2 with ⟨rfl, h0⟩ | ⟨g, cap, cur, rfl, hb, hr, h1, h2, h3, h4⟩
  · refine ⟨none, 0, by rw [h0], ?_, by simp⟩
    have : l = [] := List.eq_nil_of_length_eq_zero h0
    subst this
    intro i x hx; simp at hx
  · refine ⟨_, cap, rfl, fun i x hx => ⟨g, 0, rfl, fun j u hu => ?_⟩, fun b o e => ?_⟩
    · have hi := (List.getElem?_eq_some_iff.1 hx).1
      have hj : j < k := by rw [← hk x]; exact (List.getElem?_eq_some_iff.1 hu).1
      have hc := flat_at hk hx hu
      have hlt : i * k + j < l.length * k := by
        have : i * k + k ≤ l.length * k := by rw [← Nat.succ_mul]; exact Nat.mul_le_mul_right k hi
        omega
      rw [← h4, List.getElem?_take_of_lt (by omega), Array.getElem?_toList] at hc
      rw [Nat.zero_add]; exact cell_at hr hc
    · cases e; exact ⟨rfl, rfl, hb⟩
theorem RowsAt.only {α : Type} {cells : α → List Value} {n : Nat} {w w' : World} {a : Option Addr} {l : List α} (h : RowsAt cells n w a l) {F : List Nat} (hO : Only F w w') (hF : ∀ b o, a = some ⟨b, o, none⟩ → b ∉ F) : RowsAt cells n w' a l := by
  intro i d hd
  obtain ⟨b, o, e, hc⟩ := h i d hd
  exact ⟨b, o, e, fun j u hu => hO.cell (hc j u hu) (hF b o e)⟩
theorem RowsAt.nil {α : Type} (cells : α → List Value) (n : Nat) (w : World) (a : Option Addr) : RowsAt cells n w a [] := fun i d h => by simp at h
/-- A row's cells as one flat list: what an append of it asks. -/
theorem RowsAt.news {α : Type} {cells : α → List Value} {k : Nat} (hk : ∀ x, (cells x).length = k) (hk0 : 0 < k) {w : World} {b o : Nat} {l : List α} (h : RowsAt cells k w (some ⟨b, o, none⟩) l) : ∀ (j : Nat) (u : Value), (l.flatMap cells)[j]? = some u → w.cell? ((⟨b, o, none⟩ : Addr).add j) = some u := by
  intro j u hu
  have hj := (List.getElem?_eq_some_iff.1 hu).1
  rw [flat_size hk] at hj
  have hi : j / k < l.length := Nat.div_lt_of_lt_mul (by rw [Nat.mul_comm]; exact hj)
  obtain ⟨x, hx⟩ : ∃ x, l[j / k]? = some x := ⟨_, List.getElem?_eq_getElem hi⟩
  have hmod : j % k < k := Nat.mod_lt _ hk0
  obtain ⟨v, hv⟩ : ∃ v, (cells x)[j % k]? = some v := ⟨_, List.getElem?_eq_getElem (by rw [hk]; exact hmod)⟩
  have hdm : j / k * k + j % k = j := by rw [Nat.mul_comm]; exact Nat.div_add_mod j k
  have h1 := flat_at hk hx hv
  rw [hdm, hu] at h1
  cases h1
  obtain ⟨b', o', e, hc⟩ := h _ x hx
  cases e
  have h2 := hc _ _ hv
  rw [Nat.add_assoc, hdm] at h2
  rw [Addr.add_lit]
  exact h2
end Go.Proofs.Ytllfehahjkbhiaa
