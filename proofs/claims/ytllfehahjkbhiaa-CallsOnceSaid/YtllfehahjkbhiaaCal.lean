/- Calls in memory: New, moment, State. -/
import Derived.Test.YtllfehahjkbhiaaCalD
import Derived.Test.YtllfehahjkbhiaaTimDue
import Derived.Test.YtllfehahjkbhiaaReg
import Derived.Test.YtllfehahjkbhiaaMapEnt
import Derived.Deep.QuietTactic
import Derived.BigQuiet
namespace Go.Proofs.Ytllfehahjkbhiaa
open Go.RowKit Go.Lib
set_option linter.unusedSimpArgs false
set_option linter.unusedVariables false
/-- A call's cells. -/
def Kc.cells (k : Kc) : Array Value := #[.int .i64 k.to, .int .i64 k.sent, .int .i64 (waitOf k.sent), .string k.body, .int .i64 k.what, .string k.answer]
def pent (P : List (Kc × Nat)) : List (Int × Value) := P.map fun p => (p.1.id, .pointer (some ⟨p.2, 0, none⟩))
def pfind (id : Int) (P : List (Kc × Nat)) : Option (Kc × Nat) := P.find? fun p => p.1.id == id
/-- A node's calls. F: the blocks that are theirs. -/
structure CalAt (w : World) (c : Nat) (F : List Nat) (C : Cs) : Prop where
  ok : CsOk C
  obj : ∃ bm t Ft P es ck, w.heap[c]? = some (.cells #[.int .i64 C.me, .int .i64 C.next, .map (some bm), .pointer (some ⟨t, 0, none⟩)] 65 (0, 0)) ∧
    w.heap[bm]? = some (.map es ck) ∧ MapOf es ck (pent P) ∧ P.map Prod.fst = C.L ∧ (∀ p ∈ P, w.heap[p.2]? = some (.cells p.1.cells 73 (0, 0))) ∧ (P.map Prod.snd).Nodup ∧
    TimAt w t Ft (tmsOf C.L) ∧ F = c :: bm :: (P.map Prod.snd ++ Ft) ∧ bm ∉ Ft ∧ c ∉ Ft ∧ ∀ p ∈ P, p.2 ∉ Ft
theorem CalAt.lt {w : World} {c : Nat} {F : List Nat} {C : Cs} (h : CalAt w c F C) : ∀ b ∈ F, b < w.heap.size := by
  obtain ⟨bm, t, Ft, P, es, ck, hc, hb, hM, hP, hk, hn, hT, rfl, _⟩ := h.obj
  intro b hm
  rcases List.mem_cons.1 hm with rfl | hm
  · exact lt_of_heap hc
  rcases List.mem_cons.1 hm with rfl | hm
  · exact lt_of_heap hb
  rcases List.mem_append.1 hm with hm | hm
  · obtain ⟨p, hp, rfl⟩ := List.mem_map.1 hm
    exact lt_of_heap (hk p hp)
  · exact hT.lt b hm
theorem CalAt.only {w w' : World} {c : Nat} {F : List Nat} {C : Cs} (h : CalAt w c F C) {G : List Nat} (hO : Only G w w') (hG : ∀ b ∈ F, b ∉ G) : CalAt w' c F C := by
  obtain ⟨bm, t, Ft, P, es, ck, hc, hb, hM, hP, hk, hn, hT, rfl, h1, h2, h3⟩ := h.obj
  refine ⟨h.ok, bm, t, Ft, P, es, ck, hO.keep hc (hG c (by simp)), hO.keep hb (hG bm (by simp)), hM, hP, ?_, hn, hT.only hO ?_, rfl, h1, h2, h3⟩
  · intro p hp
    exact hO.keep (hk p hp) (hG p.2 (by simp only [List.mem_cons, List.mem_append, List.mem_map]; exact .inr (.inr (.inl ⟨p, hp, rfl⟩))))
  · intro b hb
    exact hG b (by simp [hb])
theorem pent_get (id : Int) : ∀ (P : List (Kc × Nat)), mget id (pent P) = (pfind id P).map fun p => Value.pointer (some ⟨p.2, 0, none⟩)
  | [] => rfl
  | p :: r => by
    have ih := pent_get id r
    unfold pent pfind at *
    rw [List.map_cons]
    unfold mget
    by_cases h : p.1.id = id
    · rw [if_pos h, List.find?_cons_of_pos (by simpa using h)]; rfl
    · rw [if_neg h, List.find?_cons_of_neg (by simpa using h)]; exact ih
theorem pfind_fst (id : Int) (P : List (Kc × Nat)) : kfind id (P.map Prod.fst) = (pfind id P).map Prod.fst := by
  unfold kfind pfind
  rw [List.find?_map]; rfl
theorem pfind_some {id : Int} {P : List (Kc × Nat)} {p : Kc × Nat} (h : pfind id P = some p) : p ∈ P ∧ p.1.id = id := by
  unfold pfind at h
  exact ⟨List.mem_of_find?_eq_some h, by simpa using List.find?_some h⟩
theorem calMoment_at (now : Int) (w : World) : Calls Try.prog 27 #[.int .i64 now] w fun e w' => e = .returned (.bool (momentB now)) ∧ w = w' := by
  unfold momentB
  by_cases h0 : 0 ≤ now
  · have b0 : decide (0 ≤ now) = true := decide_eq_true h0
    rw [b0, Bool.true_and]
    go_enter Try.func27, Try.ntmps27
    go_wp2_with fail
    go_ret
    exact ⟨rfl, rfl⟩
  · have b0 : decide (0 ≤ now) = false := decide_eq_false h0
    rw [b0, Bool.false_and]
    go_enter Try.func27, Try.ntmps27
    go_wp2_with fail
    go_ret
    exact ⟨rfl, rfl⟩
theorem calNew_at (me first : Int) (w : World) : Calls Try.prog 9 #[.int .i64 me, .int .i64 first] w fun e w' => ∃ c F, e = .returned (.pointer (some ⟨c, 0, none⟩)) ∧ CalAt w' c F (cnew me first) ∧ Only [] w w' ∧ ∀ b ∈ F, w.heap.size ≤ b := by
  have hmm := @run_makeMap Try.prog
  have hOA : Only [] w (w.alloc (.map #[] 0)) := (Only.refl [] w).alloc _
  have hba : (w.alloc (.map #[] 0)).heap[w.heap.size]? = some (.map #[] 0) := heap_alloc_at rfl
  have HOA := Lib.hid hOA
  have HBA := Lib.hid hba
  clear hOA hba
  have hfin : ∀ (w1 : World) (t : Nat) (F1 : List Nat) (a b : Int), TimAt w1 t F1 [] → w1.heap[w.heap.size]? = some (.map #[] 0) → Only [] w w1 → (∀ b ∈ F1, (w.alloc (.map #[] 0)).heap.size ≤ b) → a = (cnew me first).me → b = (cnew me first).next →
      ∃ c F, Ending.returned (.pointer (some ⟨w1.heap.size, 0, none⟩)) = .returned (.pointer (some ⟨c, 0, none⟩)) ∧ CalAt (w1.alloc (.cells #[.int .i64 a, .int .i64 b, .map (some w.heap.size), .pointer (some ⟨t, 0, none⟩)] 65)) c F (cnew me first) ∧ Only [] w (w1.alloc (.cells #[.int .i64 a, .int .i64 b, .map (some w.heap.size), .pointer (some ⟨t, 0, none⟩)] 65)) ∧ ∀ b ∈ F, w.heap.size ≤ b := by
    rintro w1 t F1 a b hT1 hB1 hO1 hF1 rfl rfl
    have hlt := hT1.lt
    have hlb := lt_of_heap hB1
    have hOB : Only [] w1 (w1.alloc (.cells #[.int .i64 (cnew me first).me, .int .i64 (cnew me first).next, .map (some w.heap.size), .pointer (some ⟨t, 0, none⟩)] 65)) := (Only.refl [] w1).alloc _
    refine ⟨w1.heap.size, w1.heap.size :: w.heap.size :: ([] ++ F1), rfl, ⟨cnew_ok me first, w.heap.size, t, F1, [], #[], 0, heap_alloc_at rfl, (heap_alloc_ne hlb).trans hB1, MapOf.nil 0, rfl, by simp, by simp, by rw [show tmsOf (cnew me first).L = [] from tms_nil]; exact hT1.only hOB (by simp), rfl, ?_, ?_, by simp⟩, hO1.trans hOB, ?_⟩
    · intro hm; have := hF1 _ hm; simp at this; omega
    · intro hm; have := hlt _ hm; omega
    · intro b hb
      have hs := hO1.size
      rcases List.mem_cons.1 hb with rfl | hb
      · omega
      rcases List.mem_cons.1 hb with rfl | hb
      · omega
      · have := hF1 b (by simpa using hb); simp at this; omega
  have HFIN := Lib.hid hfin
  clear hfin
  go_enter Try.func9, Try.ntmps9
  go_wp2_with fail
  all_goals
    refine (timNew_at _).mono ?_
    rintro e w1 ⟨t, F1, rfl, hT1, hO1, hF1⟩
    have hb1 := hO1.keep HBA.out (by simp)
    have HT1 := Lib.hid hT1
    have HB1 := Lib.hid hb1
    have HO1 := Lib.hid (HOA.out.trans hO1)
    have HF1 := Lib.hid hF1
    clear hT1 hO1 hF1 hb1
    go_wp2_with fail
    go_ret
    refine HFIN.out w1 t F1 _ _ HT1.out HB1.out HO1.out HF1.out ?_ ?_ <;> (unfold cnew; dsimp only; omega)
theorem calState_nil (id : Int) (w : World) : Calls Try.prog 20 #[.pointer none, .int .i64 id] w fun e w' => e = .returned (.tuple #[.int .i64 0, .string ByteArray.empty]) ∧ w = w' := by
  go_enter Try.func20, Try.ntmps20
  go_wp2_with fail
  go_ret2
  exact ⟨rfl, rfl⟩
set_option maxHeartbeats 1000000 in
set_option maxRecDepth 100000 in
theorem calState_at {w : World} {c : Nat} {F : List Nat} {C : Cs} (h : CalAt w c F C) (id : Int) :
    Calls Try.prog 20 #[.pointer (some ⟨c, 0, none⟩), .int .i64 id] w fun e w' => e = .returned (.tuple #[.int .i64 (cstate C id).1, .string (cstate C id).2]) ∧ Only [] w w' := by
  obtain ⟨bm, t, Ft, P, es, ck, hc, hb, hM, hP, hk, hn, hT, rfl, h1, h2, h3⟩ := h.obj
  have c2 := cell_at (o := 2) hc rfl
  have hfst := pfind_fst id P
  rw [hP] at hfst
  have hgl := pent_get id P
  cases hf : pfind id P with
  | none =>
    rw [hf] at hfst hgl
    have hrun := run_mlookup_none (P := Try.prog) (c := true) Try.underlying61 Try.underlying3 (i := _) (z := .pointer none) rfl rfl hb hM hgl
    rw [if_pos rfl] at hrun
    have hst : cstate C id = (0, ByteArray.empty) := by unfold cstate; rw [hfst]; rfl
    rw [hst]
    clear hc hb hM hP hk hn hT h hfst hgl hf h1 h2 h3 hst
    go_enter Try.func20, Try.ntmps20
    go_wp2_with fail
    go_ret2
    exact ⟨rfl, Only.refl _ _⟩
  | some p =>
    obtain ⟨hp, hpid⟩ := pfind_some hf
    rw [hf] at hfst hgl
    have hrun := run_mlookup_some (P := Try.prog) (c := true) Try.underlying61 Try.underlying3 hb hM hgl
    rw [if_pos rfl] at hrun
    have hst : cstate C id = (p.1.what, p.1.answer) := by unfold cstate; rw [hfst]; rfl
    rw [hst]
    have d4 : w.cell? ⟨p.2, 4, none⟩ = some (.int .i64 p.1.what) := cell_at (hk p hp) rfl
    have d5 : w.cell? ⟨p.2, 5, none⟩ = some (.string p.1.answer) := cell_at (hk p hp) rfl
    have HK := Lib.hid (hk p hp)
    clear hc hb hM hP hk hn hT h hfst hgl hf h1 h2 h3 hst hpid hp
    go_enter Try.func20, Try.ntmps20
    go_wp2_with fail
    go_quiet (fail)
    go_wp2_with fail
    go_ret2
    exact ⟨rfl, (Only.refl _ _).drewN _⟩
end Go.Proofs.Ytllfehahjkbhiaa
