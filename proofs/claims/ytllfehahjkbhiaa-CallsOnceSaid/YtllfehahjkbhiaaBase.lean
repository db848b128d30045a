/- Small words on worlds: what a call may turn ('Only'), facts on blocks as facts on cells, maps with whole numbers as keys. No program is named. -/
import Derived.WalkKit
import Derived.MapKept
import Derived.RowKit3
import Derived.Lib.Hide
import Derived.Deep.Draws
import Derived.Maps.RangeRun
import Derived.Maps.Range
namespace Go.Proofs.Ytllfehahjkbhiaa
open Go.RowKit Go.MapKept
set_option linter.unusedSimpArgs false
set_option linter.unusedVariables false

/-! ### What a call may turn -/
/-- Of the blocks that were there, those of F alone may have turned. -/
structure Only (F : List Nat) (w w' : World) : Prop where
  os : w'.os = w.os
  tape : w'.tape = w.tape
  output : w'.output = w.output
  size : w.heap.size ≤ w'.heap.size
  block : ∀ k, k < w.heap.size → k ∉ F → w'.heap[k]? = w.heap[k]?
theorem Only.refl (F : List Nat) (w : World) : Only F w w := ⟨rfl, rfl, rfl, Nat.le_refl _, fun _ _ _ => rfl⟩
theorem Only.call {F G : List Nat} {a b c : World} (h : Only F a b) (k : Only G b c) (hG : ∀ i ∈ G, i ∈ F ∨ a.heap.size ≤ i) : Only F a c :=
  ⟨k.os.trans h.os, k.tape.trans h.tape, k.output.trans h.output, Nat.le_trans h.size k.size, fun i hi hF =>
    (k.block i (Nat.lt_of_lt_of_le hi h.size) (fun hm => by rcases hG i hm with h1 | h1; exact hF h1; omega)).trans (h.block i hi hF)⟩
theorem Only.trans {F : List Nat} {a b c : World} (h : Only F a b) (k : Only F b c) : Only F a c := h.call k (fun _ h => .inl h)
theorem Only.mono {F G : List Nat} {a b : World} (h : Only F a b) (hG : ∀ i ∈ F, i ∈ G ∨ a.heap.size ≤ i) : Only G a b := (Only.refl G a).call h hG
theorem Only.drew {F : List Nat} {a w : World} (h : Only F a w) : Only F a w.drew := ⟨h.os, h.tape, h.output, h.size, h.block⟩
theorem Only.drewN {F : List Nat} {a w : World} (n : Nat) (h : Only F a w) : Only F a (w.drewN n) := ⟨h.os, h.tape, h.output, h.size, h.block⟩
theorem Only.alloc {F : List Nat} {a w : World} (h : Only F a w) (o : Obj) : Only F a (w.alloc o) :=
  h.call (G := []) ⟨rfl, rfl, rfl, by simp, fun k hk _ => Below.heap_alloc _ _ _ hk⟩ (fun _ h => by cases h)
theorem Only.setCell {F : List Nat} {a w : World} (h : Only F a w) {p : Addr} (hp : p.block ∈ F ∨ a.heap.size ≤ p.block) (u : Value) : Only F a (w.setCell p u) :=
  h.call (G := [p.block]) ⟨rfl, rfl, rfl, by simp [World.setCell], fun k _ hk => Below.heap_setCell _ _ _ _ (by simpa using hk)⟩ (fun i hi => by simp at hi; subst hi; exact hp)
/-- A block is laid anew (a map's, an iterator's). -/
theorem setB_eq (w : World) (b : Nat) (o : Obj) : { w with heap := w.heap.setIfInBounds b o } = ChangeMaps.setBlock w b o := rfl
theorem setB_same {w : World} {b : Nat} {o o' : Obj} (h : w.heap[b]? = some o') : (ChangeMaps.setBlock w b o).heap[b]? = some o := (heap_set h).1
theorem setB_other {w : World} {b k : Nat} {o : Obj} (h : k ≠ b) : (ChangeMaps.setBlock w b o).heap[k]? = w.heap[k]? := by
  simp only [ChangeMaps.setBlock, Array.getElem?_setIfInBounds]
  rw [if_neg (fun e => h e.symm)]
@[simp] theorem setB_size (w : World) (b : Nat) (o : Obj) : (ChangeMaps.setBlock w b o).heap.size = w.heap.size := by simp [ChangeMaps.setBlock]
theorem Only.setB {F : List Nat} {a w : World} (h : Only F a w) {b : Nat} (hp : b ∈ F ∨ a.heap.size ≤ b) (o : Obj) : Only F a (ChangeMaps.setBlock w b o) :=
  h.call (G := [b]) ⟨rfl, rfl, rfl, by simp, fun k _ hk => setB_other (by simpa using hk)⟩ (fun i hi => by simp at hi; subst hi; exact hp)
theorem Only.grown {F : List Nat} {a w w' : World} {row : Option Nat} (h : Only F a w) (hg : w.grownBy w' row) (hr : ∀ k, row = some k → k ∈ F ∨ a.heap.size ≤ k) : Only F a w' :=
  h.call (G := row.toList) ⟨hg.os, hg.tape, hg.output, hg.size, fun k hk hn => hg.block k hk (fun e => hn (by simp [← e]))⟩ (fun i hi => by simp at hi; exact hr i hi)
theorem Only.below {a w : World} {F : List Nat} {B : Nat} (h : Only F a w) (hB : B ≤ a.heap.size) (hF : ∀ i ∈ F, B ≤ i) : Below B a w :=
  ⟨h.os, h.tape, h.output, h.size, fun k hk => h.block k (by omega) (fun hm => by have := hF k hm; omega)⟩
theorem Only.of_below {a w : World} {F : List Nat} (h : Below a.heap.size a w) : Only F a w := ⟨h.os, h.tape, h.output, h.size, fun k hk _ => h.block k hk⟩
theorem Only.keep {F : List Nat} {a w : World} (h : Only F a w) {k : Nat} {o : Obj} (ho : a.heap[k]? = some o) (hk : k ∉ F) : w.heap[k]? = some o :=
  (h.block k (Array.getElem?_eq_some_iff.1 ho).1 hk).trans ho
theorem Only.cell {F : List Nat} {a w : World} (h : Only F a w) {p : Addr} {u : Value} (hc : a.cell? p = some u) (hp : p.block ∉ F) : w.cell? p = some u :=
  (World.cell?_of_block (h.block p.block (World.block_lt_of_cell? a p hc) hp)).trans hc
theorem lt_of_heap {w : World} {k : Nat} {o : Obj} (ho : w.heap[k]? = some o) : k < w.heap.size := (Array.getElem?_eq_some_iff.1 ho).1

/-! ### Blocks and cells -/
theorem cell_at {w : World} {b o : Nat} {cs : Array Value} {E : TypeId} {fr : Nat × Nat} {v : Value} (h : w.heap[b]? = some (.cells cs E fr)) (ho : cs[o]? = some v) : w.cell? ⟨b, o, none⟩ = some v := by
  simp [World.cell?, h, ho]
theorem frozen_at {w : World} {b o : Nat} {cs : Array Value} {E : TypeId} (h : w.heap[b]? = some (.cells cs E (0, 0))) : w.frozen? ⟨b, o, none⟩ = false := by
  simp [World.frozen?, h]
theorem setB_cell {w : World} {b : Nat} {o : Obj} {p : Addr} (h : p.block ≠ b) : (ChangeMaps.setBlock w b o).cell? p = w.cell? p := World.cell?_of_block (setB_other h)
theorem setB_frozen {w : World} {b : Nat} {o : Obj} {p : Addr} (h : p.block ≠ b) : (ChangeMaps.setBlock w b o).frozen? p = w.frozen? p := World.frozen?_of_block (setB_other h)
theorem heap_alloc_ne {w : World} {o : Obj} {k : Nat} (h : k < w.heap.size) : (w.alloc o).heap[k]? = w.heap[k]? := Below.heap_alloc w o k h
theorem heap_alloc_at {w : World} {o : Obj} {k : Nat} (h : k = w.heap.size) : (w.alloc o).heap[k]? = some o := by subst h; exact heap_alloc_new w o
theorem heap_store {w : World} {b o : Nat} {cs : Array Value} {E : TypeId} {fr : Nat × Nat} {u : Value} (h : w.heap[b]? = some (.cells cs E fr)) : (w.setCell ⟨b, o, none⟩ u).heap[b]? = some (.cells (cs.setIfInBounds o u) E fr) := by
  simp only [World.setCell, Array.getElem?_modify, if_true, h, Option.map_some]; rfl
theorem heap_store_ne {w : World} {p : Addr} {k : Nat} {u : Value} (h : k ≠ p.block) : (w.setCell p u).heap[k]? = w.heap[k]? := Below.heap_setCell w p u k h
@[simp] theorem heap_drewN (w : World) (n : Nat) : (w.drewN n).heap = w.heap := rfl
@[simp] theorem heap_drew (w : World) : w.drew.heap = w.heap := rfl

theorem ret_b {b c : Bool} (h : b = c) : Ending.returned (.bool b) = .returned (.bool c) := by rw [h]
theorem ret_i {k : IntKind} {b c : Int} (h : b = c) : Ending.returned (.int k b) = .returned (.int k c) := by rw [h]
theorem ret_s {b c : ByteArray} (h : b = c) : Ending.returned (.string b) = .returned (.string c) := by rw [h]

/-! ### Maps with whole numbers as keys -/
/-- The entries of a map, in the order in which they lie. -/
structure MapOf (es : Array MapEntry) (ck : Nat) (l : List (Int × Value)) : Prop where
  eq : es.toList.map (fun e => (e.key, e.val)) = l.map (fun p => (Value.int .i64 p.1, p.2))
  st : Stamped es ck
theorem MapOf.nil (ck : Nat) : MapOf #[] ck [] := ⟨rfl, stamped_empty ck⟩
theorem MapOf.len {es : Array MapEntry} {ck : Nat} {l : List (Int × Value)} (h : MapOf es ck l) : es.size = l.length := by
  have := congrArg List.length h.eq; simpa using this
theorem MapOf.keys {es : Array MapEntry} {ck : Nat} {l : List (Int × Value)} (h : MapOf es ck l) : es.toList.map (·.key) = l.map (fun p => Value.int .i64 p.1) := by
  have := congrArg (List.map Prod.fst) h.eq; simpa [List.map_map, Function.comp_def] using this
theorem MapOf.isKey {es : Array MapEntry} {ck : Nat} {l : List (Int × Value)} (h : MapOf es ck l) : ∀ x ∈ es.toList, IsKey (.int .i64) x.key := by
  intro x hx
  have : x.key ∈ es.toList.map (·.key) := List.mem_map.2 ⟨x, hx, rfl⟩
  rw [h.keys] at this
  obtain ⟨p, _, e⟩ := List.mem_map.1 this
  rw [← e]; rfl
theorem MapOf.keyAt {es : Array MapEntry} {ck : Nat} {l : List (Int × Value)} (h : MapOf es ck l) {e : MapEntry} (he : e ∈ es.toList) : ∃ k, e.key = .int .i64 k := by
  have : e.key ∈ es.toList.map (·.key) := List.mem_map.2 ⟨e, he, rfl⟩
  rw [h.keys] at this
  obtain ⟨p, _, e'⟩ := List.mem_map.1 this
  exact ⟨p.1, e'.symm⟩
theorem MapOf.nodup {es : Array MapEntry} {ck : Nat} {l : List (Int × Value)} (h : MapOf es ck l) : (l.map Prod.fst).Nodup := by
  have h3 := h.st.2.2
  rw [h.keys] at h3
  simp only [List.Nodup, List.pairwise_map] at h3 ⊢
  exact h3.imp (fun {a b} hne e => hne (by rw [e]))
theorem MapOf.at {es : Array MapEntry} {ck : Nat} {l : List (Int × Value)} (h : MapOf es ck l) (j : Nat) : (es[j]?).map (fun e => (e.key, e.val)) = (l[j]?).map (fun p => (Value.int .i64 p.1, p.2)) := by
  have := congrArg (fun q => q[j]?) h.eq
  simpa using this
/-- What stands at a key. -/
def mget (k : Int) : List (Int × Value) → Option Value
  | [] => none
  | p :: r => if p.1 = k then some p.2 else mget k r
def mset (k : Int) (v : Value) : List (Int × Value) → List (Int × Value)
  | [] => [(k, v)]
  | p :: r => if p.1 = k then (k, v) :: r else p :: mset k v r
def mdel (k : Int) : List (Int × Value) → List (Int × Value)
  | [] => []
  | p :: r => if p.1 = k then r else p :: mdel k r
theorem mget_none {k : Int} {l : List (Int × Value)} (h : mget k l = none) : ∀ p ∈ l, p.1 ≠ k := by
  induction l with
  | nil => simp
  | cons p r ih =>
    unfold mget at h
    split at h
    · cases h
    · rename_i hne
      intro q hq
      rcases List.mem_cons.1 hq with rfl | hq
      · exact hne
      · exact ih h q hq
theorem mget_some {k : Int} {v : Value} {l : List (Int × Value)} (h : mget k l = some v) : ∃ j : Nat, l[j]? = some (k, v) ∧ ∀ i p, i < j → l[i]? = some p → p.1 ≠ k := by
  induction l with
  | nil => cases h
  | cons p r ih =>
    unfold mget at h
    split at h
    · rename_i he
      refine ⟨0, ?_, fun i _ hi => by omega⟩
      cases p; simp_all
    · rename_i hne
      obtain ⟨j, h1, h2⟩ := ih h
      refine ⟨j + 1, by simpa using h1, fun i q hi hq => ?_⟩
      cases i with
      | zero => simp at hq; subst hq; exact hne
      | succ i => exact h2 i q (by omega) (by simpa using hq)
theorem mget_mset (k k' : Int) (v : Value) (l : List (Int × Value)) : mget k' (mset k v l) = if k' = k then some v else mget k' l := by
  induction l with
  | nil =>
    unfold mset mget
    by_cases h : k = k'
    · subst h; simp
    · rw [if_neg h, if_neg (fun e => h e.symm)]; rfl
  | cons p r ih =>
    unfold mset
    by_cases h : p.1 = k
    · rw [if_pos h]
      unfold mget
      by_cases h' : k = k'
      · subst h'; simp
      · rw [if_neg h', if_neg (fun e => h' e.symm), if_neg (fun e => h' (h.symm.trans e))]
    · rw [if_neg h]
      unfold mget
      by_cases h' : p.1 = k'
      · rw [if_pos h', if_neg (fun e => h (h'.trans e)), if_pos h']
      · rw [if_neg h', if_neg h', ih]
theorem mset_keys (k : Int) (v : Value) (l : List (Int × Value)) : (mset k v l).map Prod.fst = if (mget k l).isSome then l.map Prod.fst else l.map Prod.fst ++ [k] := by
  induction l with
  | nil => simp [mset, mget]
  | cons p r ih =>
    unfold mset mget
    by_cases h : p.1 = k
    · simp [h]
    · rw [if_neg h, if_neg h]
      simp only [List.map_cons, ih]
      split <;> simp
theorem mget_mdel (k k' : Int) (l : List (Int × Value)) (hn : (l.map Prod.fst).Nodup) : mget k' (mdel k l) = if k' = k then none else mget k' l := by
  induction l with
  | nil => simp [mdel, mget]
  | cons p r ih =>
    simp only [List.map_cons, List.nodup_cons] at hn
    unfold mdel
    by_cases h : p.1 = k
    · rw [if_pos h]
      by_cases h' : k' = k
      · subst h'
        rw [if_pos rfl]
        cases hg : mget k' r with
        | none => rfl
        | some v =>
          obtain ⟨j, hj, _⟩ := mget_some hg
          exact absurd (List.mem_map.2 ⟨_, List.mem_of_getElem? hj, rfl⟩) (h ▸ hn.1)
      · rw [if_neg h']
        conv => rhs; unfold mget
        rw [if_neg (fun e => h' (e.symm.trans h))]
    · rw [if_neg h]
      unfold mget
      by_cases h' : p.1 = k'
      · rw [if_pos h', if_neg (fun e => h (h'.trans e)), if_pos h']
      · rw [if_neg h', if_neg h', ih hn.2]

section
variable {P : Program} {w : World} {T K E : TypeId} {b ck : Nat} {es : Array MapEntry} {l : List (Int × Value)} {k : Int}
theorem find_none (h : MapOf es ck l) (hk : mget k l = none) : Instr.findNow (.int .i64) (.int .i64 k) es.toList 0 = some none := by
  rcases findNow_spec (d := .int .i64) (k := .int .i64 k) rfl es.toList 0 h.isKey with ⟨h1, _⟩ | ⟨j, e, _, h2, h3⟩
  · exact h1
  · exfalso
    have hj : es[j]? = some e := by simpa using h2
    have ha := h.at j
    rw [hj] at ha
    cases hl : l[j]? with
    | none => rw [hl] at ha; simp at ha
    | some p =>
      rw [hl] at ha
      simp only [Option.map_some, Option.some.injEq, Prod.mk.injEq] at ha
      rw [h3] at ha
      have : k = p.1 := by have := ha.1; simpa using this
      exact mget_none hk p (List.mem_of_getElem? hl) this.symm
theorem find_some {v : Value} (h : MapOf es ck l) (hk : mget k l = some v) : ∃ j e, Instr.findNow (.int .i64) (.int .i64 k) es.toList 0 = some (some (j, v)) ∧ es[j]? = some e ∧ e.key = .int .i64 k ∧ e.val = v ∧ l[j]? = some (k, v) := by
  obtain ⟨m, hm, _⟩ := mget_some hk
  rcases findNow_spec (d := .int .i64) (k := .int .i64 k) rfl es.toList 0 h.isKey with ⟨_, h2⟩ | ⟨j, e, h1, h2, h3⟩
  · exfalso
    have ha := h.at m
    rw [hm] at ha
    cases he : es[m]? with
    | none => rw [he] at ha; simp at ha
    | some e =>
      rw [he] at ha
      simp only [Option.map_some, Option.some.injEq, Prod.mk.injEq] at ha
      exact h2 e (Array.mem_toList_iff.2 (Array.mem_of_getElem? he)) ha.1
  · have hj : es[j]? = some e := by simpa using h2
    have ha := h.at j
    rw [hj] at ha
    cases hl : l[j]? with
    | none => rw [hl] at ha; simp at ha
    | some p =>
      rw [hl] at ha
      simp only [Option.map_some, Option.some.injEq, Prod.mk.injEq] at ha
      rw [h3] at ha
      have hp1 : k = p.1 := by have := ha.1; simpa using this
      have hjm : j = m := by
        have hn := h.nodup
        have a1 : (l.map Prod.fst)[j]? = some k := by simp [hl, hp1]
        have a2 : (l.map Prod.fst)[m]? = some k := by simp [hm]
        have b1 : j < (l.map Prod.fst).length := (List.getElem?_eq_some_iff.1 a1).1
        exact (List.getElem?_inj b1 hn).1 (a1.trans a2.symm)
      subst hjm
      have hpv : p = (k, v) := by rw [hm] at hl; simpa using hl.symm
      subst hpv
      exact ⟨j, e, by rw [h1, Nat.zero_add, ha.2], hj, h3, ha.2, hm⟩
theorem run_mlookup_none {z : Value} {i : TypeInfo} (hT : P.underlying T = some (.map K E)) (hK : P.underlying K = some (.int .i64)) (hi : P.info? E = some i) (hz : i.zero = some z)
    (hb : w.heap[b]? = some (.map es ck)) (h : MapOf es ck l) (hk : mget k l = none) (c : Bool) :
    (Instr.lookup T (.map (some b)) (.int .i64 k) c).run P w = .ok (if c then .tuple #[z, .bool false] else z) w := by
  simp [Instr.lookup, run_underlying hT, MapKept.run_getObj_map hb, MapKept.run_checkKey hK (show IsKey (.int .i64) (.int .i64 k) from rfl), MapKept.run_findKey hK (find_none h hk), Result.andThen, zeroValue, typeInfo, hi, hz]
theorem run_mlookup_some {v : Value} (hT : P.underlying T = some (.map K E)) (hK : P.underlying K = some (.int .i64))
    (hb : w.heap[b]? = some (.map es ck)) (h : MapOf es ck l) (hk : mget k l = some v) (c : Bool) :
    (Instr.lookup T (.map (some b)) (.int .i64 k) c).run P w = .ok (if c then .tuple #[v, .bool true] else v) w := by
  obtain ⟨j, e, h1, _⟩ := find_some h hk
  simp [Instr.lookup, run_underlying hT, MapKept.run_getObj_map hb, MapKept.run_checkKey hK (show IsKey (.int .i64) (.int .i64 k) from rfl), MapKept.run_findKey hK h1, Result.andThen]
theorem mset_none (v : Value) : ∀ (l : List (Int × Value)), mget k l = none → mset k v l = l ++ [(k, v)]
  | [], _ => rfl
  | p :: r, h => by
    unfold mget at h
    split at h
    · cases h
    · rename_i hne
      unfold mset
      rw [if_neg hne, mset_none v r h]; rfl
theorem mset_at (v u : Value) : ∀ (l : List (Int × Value)) (j : Nat), (l.map Prod.fst).Nodup → l[j]? = some (k, u) → mset k v l = l.set j (k, v)
  | [], _, _, h => by simp at h
  | p :: r, j, hn, h => by
    simp only [List.map_cons, List.nodup_cons] at hn
    cases j with
    | zero => simp at h; subst h; simp [mset]
    | succ j =>
      simp at h
      have hne : p.1 ≠ k := fun e => hn.1 (e ▸ List.mem_map.2 ⟨_, List.mem_of_getElem? h, rfl⟩)
      unfold mset
      rw [if_neg hne, mset_at v u r j hn.2 h]; rfl
/-- 'm[k] = v'. -/
theorem run_mset {v : Value} (hT : P.underlying T = some (.map K E)) (hK : P.underlying K = some (.int .i64)) (h : MapOf es ck l) :
    ∃ es' ck', (∀ w : World, w.heap[b]? = some (.map es ck) → (Instr.mapUpdate T (.map (some b)) (.int .i64 k) v).run P w = .ok () (ChangeMaps.setBlock w b (.map es' ck'))) ∧ MapOf es' ck' (mset k v l) := by
  cases hk : mget k l with
  | none =>
    refine ⟨es.push { key := .int .i64 k, val := v, born := ck }, ck + 1, ?_, ?_, ?_⟩
    · intro w hb
      simp [Instr.mapUpdate, run_underlying hT, MapKept.run_getObj_map hb, MapKept.run_checkKey hK (show IsKey (.int .i64) (.int .i64 k) from rfl), MapKept.run_findKey hK (find_none h hk), MapKept.run_setObj_map _ hb, Result.andThen, setB_eq]
    · rw [mset_none v l hk]; simp [h.eq]
    · refine stamped_push h.st ?_
      intro x hx e
      have : x.key ∈ es.toList.map (·.key) := List.mem_map.2 ⟨x, hx, rfl⟩
      rw [h.keys] at this
      obtain ⟨p, hp, e'⟩ := List.mem_map.1 this
      rw [e] at e'
      exact mget_none hk p hp (by simpa using e')
  | some u =>
    obtain ⟨j, e, h1, hj, h3, h4, hl⟩ := find_some h hk
    have hsz : j < es.size := (Array.getElem?_eq_some_iff.1 hj).1
    refine ⟨es.modify j fun e => { e with key := .int .i64 k, val := v }, ck, ?_, ?_, ?_⟩
    · intro w hb
      simp [Instr.mapUpdate, run_underlying hT, MapKept.run_getObj_map hb, MapKept.run_checkKey hK (show IsKey (.int .i64) (.int .i64 k) from rfl), MapKept.run_findKey hK h1, hj, h3, MapKept.run_keyThatStays (show IsKey (.int .i64) (.int .i64 k) from rfl), MapKept.run_setObj_map _ hb, Result.andThen, setB_eq]
    · rw [mset_at v u l j h.nodup hl]
      apply List.ext_getElem?
      intro i
      have ha := h.at i
      by_cases hij : j = i
      · subst hij
        have hlj : j < l.length := (List.getElem?_eq_some_iff.1 hl).1
        simp [Array.getElem?_modify, hj, hlj]
      · simp only [List.getElem?_map, Array.getElem?_toList, Array.getElem?_modify, if_neg hij, List.getElem?_set, if_neg hij]
        exact ha
    · exact stamped_modify h.st _ _ (fun _ _ => rfl) (fun e' _ he' => by rw [hj] at he'; cases he'; exact h3.symm)
/-- 'clear(m)'. -/
theorem run_mclear (ty : TypeId) (hT : P.underlying T = some (.map K E)) (hb : w.heap[b]? = some (.map es ck)) :
    (Builtin.clear_ #[T] ty #[.map (some b)]).run P w = .ok (.tuple #[]) (ChangeMaps.setBlock w b (.map #[] ck)) := by
  simp [Builtin.clear_, run_underlying hT, MapKept.run_getObj_map hb, MapKept.run_setObj_map _ hb, Result.andThen, setB_eq]
theorem mdel_none : ∀ (l : List (Int × Value)), mget k l = none → mdel k l = l
  | [], _ => rfl
  | p :: r, h => by
    unfold mget at h
    split at h
    · cases h
    · rename_i hne
      unfold mdel
      rw [if_neg hne, mdel_none r h]
theorem mdel_at (u : Value) : ∀ (l : List (Int × Value)) (j : Nat), (l.map Prod.fst).Nodup → l[j]? = some (k, u) → mdel k l = l.eraseIdx j
  | [], _, _, h => by simp at h
  | p :: r, j, hn, h => by
    simp only [List.map_cons, List.nodup_cons] at hn
    cases j with
    | zero => simp at h; subst h; simp [mdel]
    | succ j =>
      simp at h
      have hne : p.1 ≠ k := fun e => hn.1 (e ▸ List.mem_map.2 ⟨_, List.mem_of_getElem? h, rfl⟩)
      unfold mdel
      rw [if_neg hne, mdel_at u r j hn.2 h]; rfl
/-- 'delete(m, k)'. -/
theorem run_mdel (ty : TypeId) (hT : P.underlying T = some (.map K E)) (hK : P.underlying K = some (.int .i64)) (h : MapOf es ck l) :
    ∃ es', (∀ w : World, w.heap[b]? = some (.map es ck) → (Builtin.delete_ #[T, K] ty #[.map (some b), .int .i64 k]).run P w = .ok (.tuple #[]) (ChangeMaps.setBlock w b (.map es' ck))) ∧ MapOf es' ck (mdel k l) := by
  cases hk : mget k l with
  | none =>
    refine ⟨es, ?_, by rw [mdel_none l hk]; exact h⟩
    intro w hb
    simp [Builtin.delete_, run_underlying hT, MapKept.run_getObj_map hb, MapKept.run_checkKey hK (show IsKey (.int .i64) (.int .i64 k) from rfl), MapKept.run_findKey hK (find_none h hk), MapKept.run_setObj_map _ hb, Result.andThen, setB_eq]
  | some u =>
    obtain ⟨j, e, h1, hj, h3, h4, hl⟩ := find_some h hk
    have hsz : j < es.size := (Array.getElem?_eq_some_iff.1 hj).1
    refine ⟨es.eraseIdxIfInBounds j, ?_, ?_, stamped_erase h.st j⟩
    · intro w hb
      simp [Builtin.delete_, run_underlying hT, MapKept.run_getObj_map hb, MapKept.run_checkKey hK (show IsKey (.int .i64) (.int .i64 k) from rfl), MapKept.run_findKey hK h1, MapKept.run_setObj_map _ hb, Result.andThen, setB_eq]
    · rw [mdel_at u l j h.nodup hl]
      have : (es.eraseIdxIfInBounds j).toList = es.toList.eraseIdx j := by simp [Array.eraseIdxIfInBounds, hsz]
      rw [this, ChangeMaps.map_eraseIdx, h.eq, ← ChangeMaps.map_eraseIdx]
theorem run_mlen (ty : TypeId) (hT : P.underlying T = some (.map K E)) (hb : w.heap[b]? = some (.map es ck)) (h : MapOf es ck l) :
    (Builtin.len_ #[T] ty #[.map (some b)]).run P w = .ok (.int .i64 l.length) w := by
  have := h.len
  simp [Builtin.len_, run_underlying hT, MapKept.run_getObj_map hb, Result.andThen, this, goInt]
end
end Go.Proofs.Ytllfehahjkbhiaa
