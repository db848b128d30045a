/- What comes in: structs of numbers, texts and bools, and slices of them, as cells. No program is named. -/
import Derived.Test.YtllfehahjkbhiaaBase
import Derived.Deep.Slices
import Derived.ChangeArms
import Derived.OpenShut
namespace Go.Proofs.Ytllfehahjkbhiaa
open Go.RowKit Go.Deep
set_option linter.unusedSimpArgs false
set_option linter.unusedVariables false
inductive Kd where
  | int (k : IntKind) | str | bool
/-- A cell of a kind. -/
def Kd.Is : Kd → Value → Prop
  | .int k, v => ∃ n, v = .int k n ∧ (Lit.int k n).wf = true
  | .str, v => ∃ s : ByteArray, v = .string s ∧ s.size ≤ maxLen
  | .bool, v => ∃ b, v = .bool b
def AllIs : List Kd → List Value → Prop
  | [], [] => True
  | k :: ks, v :: vs => k.Is v ∧ AllIs ks vs
  | _, _ => False
theorem AllIs.length : ∀ {ks : List Kd} {vs : List Value}, AllIs ks vs → vs.length = ks.length
  | [], [], _ => rfl
  | _ :: ks, _ :: vs, h => by simp [AllIs.length h.2]
  | [], _ :: _, h => h.elim
  | _ :: _, [], h => h.elim
theorem AllIs.append : ∀ {ks ks' : List Kd} {vs vs' : List Value}, AllIs ks vs → AllIs ks' vs' → AllIs (ks ++ ks') (vs ++ vs')
  | [], _, [], _, _, h' => h'
  | _ :: ks, _, _ :: vs, _, h, h' => ⟨h.1, AllIs.append h.2 h'⟩
  | [], _, _ :: _, _, h, _ => h.elim
  | _ :: _, _, [], _, h, _ => h.elim
/-- The kinds of a type's cells. -/
inductive Flat (P : Program) : TypeId → List Kd → Prop
  | int {t : TypeId} {k : IntKind} : P.underlying t = some (.int k) → P.cellsOf t = 1 → Flat P t [.int k]
  | str {t : TypeId} : P.underlying t = some .string → P.cellsOf t = 1 → Flat P t [.str]
  | bool {t : TypeId} : P.underlying t = some .bool → P.cellsOf t = 1 → Flat P t [.bool]
  | struct {t : TypeId} {fs : Array Field} {kss : List (List Kd)} : P.underlying t = some (.struct fs) → P.cellsOf t = kss.flatten.length → kss.length = fs.size →
      (∀ (i : Nat) (f : Field) (ks : List Kd), fs[i]? = some f → kss[i]? = some ks → Flat P f.type ks) →
      (∀ (i : Nat) (f : Field) (ks : List Kd), fs[i]? = some f → kss[i]? = some ks → P.cellsOf f.type = ks.length ∧ f.offset = (kss.take i).flatten.length) → Flat P t kss.flatten
theorem flat_pieces (kss : List (List Kd)) : ∀ (cs : List Value), cs.length = kss.flatten.length →
    (∀ i ks, kss[i]? = some ks → AllIs ks ((cs.drop (kss.take i).flatten.length).take ks.length)) → AllIs kss.flatten cs := by
  induction kss with
  | nil => intro cs h _; obtain rfl := List.eq_nil_of_length_eq_zero (l := cs) (by simpa using h); trivial
  | cons k r ih =>
    intro cs h hp
    rw [List.flatten_cons, List.length_append] at h
    have h0 := hp 0 k rfl
    simp only [List.take_zero, List.flatten_nil, List.length_nil, List.drop_zero] at h0
    rw [List.flatten_cons, ← List.take_append_drop k.length cs]
    refine AllIs.append h0 (ih _ (by rw [List.length_drop]; omega) fun i ks hi => ?_)
    have := hp (i + 1) ks (by simpa using hi)
    simp only [List.take_succ_cons, List.flatten_cons, List.length_append] at this
    rwa [List.drop_drop]
section
variable {H : Type} {enc : TypeId × Value → H} {P : Program} {w : World} {base : Nat} {spare : Nat → Bool} {held : Bool}
theorem trod_flat {t : TypeId} {ks : List Kd} (hF : Flat P t ks) : ∀ {fuel : Nat} {cs : List Value} {x : DataW H × List MemPlace}, DataW.trod enc P w base spare held fuel t cs = some x → AllIs ks cs := by
  induction hF with
  | int ht _ => intro fuel cs x h; obtain ⟨n, rfl, _, hw⟩ := DataW.trod_int ht h; exact ⟨⟨n, rfl, hw⟩, trivial⟩
  | str ht _ => intro fuel cs x h; obtain ⟨s, rfl, _, hw⟩ := DataW.trod_string ht h; exact ⟨⟨s, rfl, hw⟩, trivial⟩
  | bool ht _ => intro fuel cs x h; obtain ⟨b, rfl, _⟩ := DataW.trod_bool ht h; exact ⟨⟨b, rfl⟩, trivial⟩
  | @struct t fs kss ht hc hl hf hg ih =>
    intro fuel cs x h
    obtain ⟨xs, n, _, _, hcl, hxl, hx⟩ := DataW.trod_struct ht h
    refine flat_pieces kss cs (hcl.trans hc) fun i ks hi => ?_
    have hil : i < fs.size := by rw [← hl]; exact (List.getElem?_eq_some_iff.1 hi).1
    obtain ⟨f, hfi⟩ : ∃ f, fs[i]? = some f := ⟨fs[i], Array.getElem?_eq_getElem hil⟩
    obtain ⟨hcf, hof⟩ := hg i f ks hfi hi
    have hxi := hx i f hfi
    obtain ⟨y, hy⟩ : ∃ y, xs[i]? = some y := ⟨xs[i]'(by rw [hxl]; exact hil), List.getElem?_eq_getElem _⟩
    rw [hy, hcf, hof] at hxi
    exact ih i f ks hfi hi hxi
theorem flat_len {t : TypeId} {ks : List Kd} (hF : Flat P t ks) : P.cellsOf t = ks.length := by
  cases hF with
  | int _ h => exact h
  | str _ h => exact h
  | bool _ h => exact h
  | struct _ h _ _ _ => exact h
theorem mapM_get {α β : Type} {f : α → Option β} : ∀ {l : List α} {r : List β}, l.mapM f = some r → ∀ {i : Nat} {x : α}, l[i]? = some x → ∃ y, r[i]? = some y ∧ f x = some y
  | [], _, _, i, x, h => by simp at h
  | a :: l, r, h, i, x, hx => by
    rw [List.mapM_cons] at h
    cases ha : f a with
    | none => rw [ha] at h; cases h
    | some b =>
      cases hl : l.mapM f with
      | none => rw [ha, hl] at h; cases h
      | some r' =>
        rw [ha, hl] at h
        have : b :: r' = r := by simpa using h
        subst this
        cases i with
        | zero => simp at hx; subst hx; exact ⟨b, rfl, ha⟩
        | succ i => exact mapM_get hl (by simpa using hx)
/-- A slice of such elements that came in: its elements' cells. -/
theorem open_flats {t e : TypeId} {ks : List Kd} {n : Nat} (ht : P.underlying t = some (.slice e)) (hF : Flat P e ks) (hn : P.cellsOf e = n) (hn0 : 0 < n) {v : Value} {d : DataW H} {p : List MemPlace}
    (h : DataW.Trod enc P w 0 spare held t v d p) : ∃ (a : Option Addr) (len cap : Nat), v.cells.toList = [.slice a len cap] ∧ len ≤ maxLen ∧ (len = 0 ∨ ∃ b o, a = some ⟨b, o, none⟩ ∧ ∀ i, i < len → ∃ cs : List Value, AllIs ks cs ∧ ∀ j u, cs[j]? = some u → w.cell? ⟨b, o + i * n + j, none⟩ = some u) := by
  obtain ⟨fuel, hf⟩ := h
  rcases open_slice ht hf with ⟨hcs, _⟩ | ⟨a, len, cap, m, k, D, Pl, hcs, _, hl, hm, hmm, _, hel⟩
  · exact ⟨none, 0, 0, hcs, by unfold maxLen; omega, .inl rfl⟩
  · refine ⟨some a, len, cap, hcs, by omega, ?_⟩
    rcases Nat.eq_zero_or_pos len with h0 | h0
    · exact .inl h0
    have hlm : len ≤ m := by rw [hmm]; split <;> omega
    have cellsAt : ∀ i, i < len → ∃ cs : List Value, AllIs ks cs ∧ ∀ j, j < n → ∃ u, cs[j]? = some u ∧ w.cell? ((a.add (i * n)).add j) = some u := by
      intro i hi
      obtain ⟨cs', hc, htr⟩ := hel i (by omega)
      rw [hn] at hc
      refine ⟨cs', trod_flat hF htr, fun j hj => ?_⟩
      unfold World.cells? at hc
      rw [if_pos (Nat.zero_le _)] at hc
      obtain ⟨u, h1, h2⟩ := mapM_get hc (show (List.range n)[j]? = some j by simp [hj])
      exact ⟨u, h1, h2⟩
    obtain ⟨cs0, _, h00⟩ := cellsAt 0 h0
    obtain ⟨u0, _, hu0⟩ := h00 0 hn0
    have hspot : a.spot = none := by
      have : (a.add (0 * n)).add 0 = a := by simp [Addr.add]
      rw [this] at hu0
      unfold World.cell? at hu0
      split at hu0
      · cases hsp : a.spot with
        | none => rfl
        | some _ => simp [hsp] at hu0
      · cases hu0
    obtain ⟨b, o, sp⟩ := a
    simp only at hspot
    subst hspot
    refine .inr ⟨b, o, rfl, fun i hi => ?_⟩
    obtain ⟨cs, hall, hc⟩ := cellsAt i hi
    refine ⟨cs, hall, fun j u hu => ?_⟩
    have hlen : cs.length = n := by rw [hall.length, ← hn]; exact (flat_len hF).symm
    obtain ⟨u', h1, h2⟩ := hc j (by rw [← hlen]; exact (List.getElem?_eq_some_iff.1 hu).1)
    rw [hu] at h1; cases h1
    rw [Addr.add_lit, Addr.add_lit] at h2
    exact h2
/-- The elements' cells, by a plain type of one's own. -/
def RowsAt {α : Type} (cells : α → List Value) (n : Nat) (w : World) (a : Option Addr) (l : List α) : Prop :=
  ∀ (i : Nat) (d : α), l[i]? = some d → ∃ b o, a = some ⟨b, o, none⟩ ∧ ∀ j u, (cells d)[j]? = some u → w.cell? ⟨b, o + i * n + j, none⟩ = some u
theorem list_of {α : Type} {n : Nat} {p : Nat → α → Prop} (h : ∀ i, i < n → ∃ x, p i x) : ∃ l : List α, l.length = n ∧ ∀ i x, l[i]? = some x → p i x := by
  induction n with
  | zero => exact ⟨[], rfl, fun i x h => by simp at h⟩
  | succ n ih =>
    obtain ⟨l, hl, hp⟩ := ih (fun i hi => h i (Nat.lt_succ_of_lt hi))
    obtain ⟨x, hx⟩ := h n (Nat.lt_succ_self n)
    refine ⟨l ++ [x], by simp [hl], fun i y hy => ?_⟩
    rcases Nat.lt_trichotomy i n with h1 | h1 | h1
    · rw [List.getElem?_append_left (by omega)] at hy; exact hp i y hy
    · subst h1; rw [List.getElem?_append_right (by omega)] at hy; simp [hl] at hy; subst hy; exact hx
    · rw [List.getElem?_eq_none (by simp; omega)] at hy; cases hy
theorem open_rows {α : Type} {cells : α → List Value} {Ok : α → Prop} {t e : TypeId} {ks : List Kd} {n : Nat} (ht : P.underlying t = some (.slice e)) (hF : Flat P e ks) (hn : P.cellsOf e = n) (hn0 : 0 < n)
    (hdec : ∀ cs, AllIs ks cs → ∃ d : α, cells d = cs ∧ Ok d) {a : Option Addr} {len cap : Nat} {d : DataW H} {p : List MemPlace} (h : DataW.Trod enc P w 0 spare held t (.slice a len cap) d p) :
    ∃ l : List α, l.length = len ∧ len ≤ maxLen ∧ RowsAt cells n w a l ∧ ∀ x ∈ l, Ok x := by
  obtain ⟨a', len', cap', hv, hlen, hor⟩ := open_flats ht hF hn hn0 h
  simp [Value.cells] at hv
  obtain ⟨rfl, rfl, rfl⟩ := hv
  rcases hor with rfl | ⟨b, o, rfl, hall⟩
  · exact ⟨[], rfl, hlen, fun i d h => by simp at h, by simp⟩
  · obtain ⟨l, hl, hp⟩ := list_of (p := fun i x => (∀ j u, (cells x)[j]? = some u → w.cell? ⟨b, o + i * n + j, none⟩ = some u) ∧ Ok x) (n := len) (fun i hi => by
      obtain ⟨cs, h1, h2⟩ := hall i hi
      obtain ⟨x, rfl, hx⟩ := hdec cs h1
      exact ⟨x, h2, hx⟩)
    refine ⟨l, hl, hlen, fun i x hx => ⟨b, o, rfl, (hp i x hx).1⟩, fun x hx => ?_⟩
    obtain ⟨i, hi⟩ := List.getElem?_of_mem hx
    exact (hp i x hi).2
theorem RowsAt.keep {α : Type} {cells : α → List Value} {n : Nat} {w w' : World} {a : Option Addr} {l : List α} (h : RowsAt cells n w a l) (hO : Only [] w w') : RowsAt cells n w' a l := by
  intro i d hd
  obtain ⟨b, o, e, hc⟩ := h i d hd
  exact ⟨b, o, e, fun j u hu => hO.cell (hc j u hu) (by simp)⟩
end
end Go.Proofs.Ytllfehahjkbhiaa
