/- An entry of a map whose key is there, and what is stored in it ('m[k], m[l] = v, u'). No program is named. -/
import Derived.Test.YtllfehahjkbhiaaBase
import Derived.WideKeyEntry
namespace Go.Proofs.Ytllfehahjkbhiaa
open Go.RowKit Go.MapKept
set_option linter.unusedSimpArgs false
set_option linter.unusedVariables false
theorem setB_id {w : World} {b : Nat} {o : Obj} (h : w.heap[b]? = some o) : ChangeMaps.setBlock w b o = w := by
  have : w.heap.setIfInBounds b o = w.heap := by
    apply Array.ext'
    rw [Array.toList_setIfInBounds]
    apply List.ext_getElem?
    intro i
    rw [List.getElem?_set]
    by_cases e : b = i
    · subst e
      have h2 := (Array.getElem?_eq_some_iff.1 h).1
      rw [if_pos rfl, if_pos (by simpa using h2), Array.getElem?_toList, h]
    · rw [if_neg e]
  unfold ChangeMaps.setBlock
  rw [this]
section
variable {P : Program} {T K E : TypeId} {es : Array MapEntry} {ck b : Nat} {l : List (Int × Value)} {k : Int}
theorem run_mentry {v : Value} (hT : P.underlying T = some (.map K E)) (hK : P.underlying K = some (.int .i64)) (h : MapOf es ck l) (hk : mget k l = some v) :
    ∃ st : Nat, (∀ w : World, w.heap[b]? = some (.map es ck) → (Instr.mapEntry T (.map (some b)) (.int .i64 k)).run P w = .ok (.tuple #[v, .int .i64 st]) w) ∧
      ∀ u : Value, ∃ es', MapOf es' ck (mset k u l) ∧ ∀ w2 : World, w2.heap[b]? = some (.map es ck) → (Instr.entryStore T (.map (some b)) (.int .i64 st) u).run P w2 = .ok () (ChangeMaps.setBlock w2 b (.map es' ck)) := by
  obtain ⟨j, e, h1, hj, h3, h4, hl⟩ := find_some h hk
  have h2 : es.toList[j]? = some e := by simpa using hj
  have hsame : es.modify j (fun e => { e with key := Value.int .i64 k }) = es := by
    apply Array.ext'
    rw [Array.toList_modify, ChangeMaps.modify_eq_set _ _ _ _ h2]
    have : ({ e with key := Value.int .i64 k } : MapEntry) = e := by rw [← h3]
    rw [this]
    exact WideElems.set_self _ _ _ h2
  refine ⟨e.born, ?_, fun u => ⟨es.modify j fun e => { e with key := .int .i64 k, val := u }, ⟨?_, ?_⟩, ?_⟩⟩
  · intro w hb
    have hid := setB_id hb
    unfold ChangeMaps.setBlock at hid
    simp [Instr.mapEntry, run_underlying hT, MapKept.run_getObj_map hb, MapKept.run_checkKey hK (show IsKey (.int .i64) (.int .i64 k) from rfl), MapKept.run_findKey hK h1, hj, h3, MapKept.run_keyThatStays (show IsKey (.int .i64) (.int .i64 k) from rfl), MapKept.run_setObj_map _ hb, Result.andThen, hsame, hid, goInt]
  · rw [mset_at u v l j h.nodup hl]
    apply List.ext_getElem?
    intro i
    have ha := h.at i
    by_cases hij : j = i
    · subst hij
      have hlj : j < l.length := (List.getElem?_eq_some_iff.1 hl).1
      simp [Array.getElem?_modify, hj, hlj]
    · simp only [List.getElem?_map, Array.getElem?_toList, Array.getElem?_modify, if_neg hij, List.getElem?_set, if_neg hij]
      exact ha
  · exact stamped_modify h.st _ _ (fun _ _ => rfl) (fun e' _ he' => by rw [hj] at he'; cases he'; exact h3.symm)
  · intro w2 hw2
    have hidx : es.findIdx? (fun e' => ((e'.born : Nat) : Int) == ((e.born : Nat) : Int)) = some j := by
      rw [WideElems.findIdx_arr]
      exact WideElems.findIdx_born h.st.2.1 h2
    have hmod : es.modify j (fun e => { e with val := u }) = es.modify j (fun e' => { e' with key := Value.int .i64 k, val := u }) := by
      apply Array.ext'
      rw [Array.toList_modify, Array.toList_modify, ChangeMaps.modify_eq_set _ _ _ _ h2, ChangeMaps.modify_eq_set _ _ _ _ h2, ← h3]
    simp [Instr.entryStore, MapKept.run_getObj_map hw2, asInt, asIntOf, goInt, hidx, hmod, MapKept.run_setObj_map _ hw2, Result.andThen, ChangeMaps.setBlock]
end
end Go.Proofs.Ytllfehahjkbhiaa
