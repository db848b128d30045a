/- A range over a map with whole numbers as keys: which entries have come; keys that are sorted. No program is named. -/
import Derived.Test.YtllfehahjkbhiaaBase
import Derived.Maps.RangeRun
import Derived.Sort.OwnSortedInts
namespace Go.Proofs.Ytllfehahjkbhiaa
open Go.RowKit Go.MapKept
set_option linter.unusedSimpArgs false
set_option linter.unusedVariables false
/-- The entries that have come, in their order, and the iterator's marks. -/
structure Visit (es : Array MapEntry) (seen : Array Nat) (done : List MapEntry) : Prop where
  marks : seen.toList = done.map (·.born)
  sub : ∀ e ∈ done, e ∈ es.toList
  nodup : (done.map (·.born)).Nodup
theorem Visit.start (es : Array MapEntry) : Visit es #[] [] := ⟨rfl, by simp, by simp⟩
theorem Visit.push {es : Array MapEntry} {seen : Array Nat} {done : List MapEntry} (h : Visit es seen done) {e : MapEntry} (he : e ∈ (leftOf es seen).toList) : Visit es (seen.push e.born) (done ++ [e]) := by
  obtain ⟨h1, h2⟩ := mem_left he
  refine ⟨by simp [h.marks], ?_, ?_⟩
  · intro x hx
    rcases List.mem_append.1 hx with hx | hx
    · exact h.sub x hx
    · rw [List.mem_singleton.1 hx]; exact h1
  · rw [List.map_append, List.nodup_append]
    refine ⟨h.nodup, by simp, ?_⟩
    intro a ha b hb e'
    simp only [List.map_cons, List.map_nil, List.mem_singleton] at hb
    subst e'; subst hb
    rw [← h.marks] at ha
    have : seen.contains e.born = true := by
      rw [Array.contains_iff_mem]; exact Array.mem_toList_iff.1 ha
    rw [this] at h2; cases h2
theorem Visit.over {es : Array MapEntry} {seen : Array Nat} {done : List MapEntry} {ck : Nat} (h : Visit es seen done) (hs : Stamped es ck) (h0 : (leftOf es seen).size = 0) : done.Perm es.toList := by
  have n1 : done.Nodup := List.Pairwise.imp (fun {a b} hne e => hne (by rw [e])) (List.pairwise_map.1 h.nodup)
  have n2 : es.toList.Nodup := List.Pairwise.imp (fun {a b} hne e => hne (by rw [e])) (List.pairwise_map.1 hs.2.1)
  refine (List.perm_ext_iff_of_nodup n1 n2).2 fun e => ⟨h.sub e, fun he => ?_⟩
  have hm : seen.contains e.born = true := by
    have hl : leftOf es seen = #[] := Array.eq_empty_of_size_eq_zero h0
    unfold leftOf at hl
    rw [Array.filter_eq_empty_iff] at hl
    have := hl e (Array.mem_toList_iff.1 he)
    simpa using this
  rw [Array.contains_iff_mem, ← Array.mem_toList_iff, h.marks] at hm
  obtain ⟨x, hx, e'⟩ := List.mem_map.1 hm
  have hxe : x = e := by
    have hb := List.pairwise_map.1 hs.2.1
    obtain ⟨i, hi⟩ := List.getElem?_of_mem (h.sub x hx)
    obtain ⟨j, hj⟩ := List.getElem?_of_mem he
    have a1 : (es.toList.map (·.born))[i]? = some e.born := by simp only [List.getElem?_map, hi, Option.map_some, e']
    have a2 : (es.toList.map (·.born))[j]? = some e.born := by simp only [List.getElem?_map, hj, Option.map_some]
    have hij := (List.getElem?_inj (List.getElem?_eq_some_iff.1 a1).1 hs.2.1).1 (a1.trans a2.symm)
    subst hij
    rw [hi] at hj; exact Option.some.inj hj
  subst hxe; exact hx
theorem Visit.room {es : Array MapEntry} {seen : Array Nat} {done : List MapEntry} (h : Visit es seen done) : done.length ≤ es.size := by
  have := List.Nodup.length_le_of_subset (l₂ := es.toList.map (·.born)) h.nodup (fun x hx => by
    obtain ⟨e, he, rfl⟩ := List.mem_map.1 hx
    exact List.mem_map.2 ⟨e, h.sub e he, rfl⟩)
  simpa using this
/-- What was gathered, sorted: the keys in their order. -/
theorem sorted_keys {zs ks : List Int} (hp : zs.Perm ks) (hs : ks.Pairwise (· < ·)) : (zs.mergeSort fun x y => decide (x ≤ y)) = ks := by
  refine List.Perm.eq_of_pairwise (le := (· ≤ ·)) (fun a b _ _ h1 h2 => Int.le_antisymm h1 h2) ?_ (hs.imp (fun {a b} h => Int.le_of_lt h)) ((List.mergeSort_perm _ _).trans hp)
  have := List.pairwise_mergeSort (le := fun x y : Int => decide (x ≤ y)) (fun a b c h1 h2 => by simp at *; omega) (fun a b => by simp; omega) zs
  exact this.imp (fun {a b} h => by simpa using h)
end Go.Proofs.Ytllfehahjkbhiaa
